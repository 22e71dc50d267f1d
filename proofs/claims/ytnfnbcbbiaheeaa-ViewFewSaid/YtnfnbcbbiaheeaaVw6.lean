/- ViewFew answers true. -/
import Derived.Test.YtnfnbcbbiaheeaaVw5
namespace Go.Proofs.Ytnfnbcbbiaheeaa.Vw
open Go.RowKit Go.Proofs.YtnfnbcbbiaheeaaW.PrintWords Go.Proofs.YtnfnbcbbiaheeaaW.PrintLast Go.Proofs.Ytnfnbcbbiaheeaa.Lib Go.Proofs.Ytnfnbcbbiaheeaa.Open
/-- The loop: i events are done. -/
def FewLoop (w0 : World) (g r m N : Nat) (k : Nat) (s10 : Value) (wr : World) : Prop :=
  ∃ (i : Nat) (L : List (Int × Int)), s10 = .int .i64 (i : Int) ∧ i + k = N ∧ Sv w0 wr g r L ∧ L.length = m ∧ Ok L
set_option maxHeartbeats 8000000 in
set_option maxRecDepth 100000 in
theorem fewlaw_calls (a0 : Int) (A1 : Option Addr) (n1 c1 : Nat) (l1 : List Int) (A2 : Option Addr) (n2 c2 : Nat) (l2 : List Int) (w : World) (hA1 : Arg icl w A1 n1 l1) (hA2 : Arg icl w A2 n2 l2) :
    Calls Try.prog 6 #[.int .i64 a0, .slice A1 n1 c1, .slice A2 n2 c2] w fun e w' => e = .returned (.bool true) ∧ Below w.heap.size w w' := by
  have HB := Aside0.mk (Below.refl w.heap.size w)
  have HA1 := Aside0.mk hA1
  have HA2 := Aside0.mk hA2
  have hn1 : n1 ≤ 9223372036854775807 := hA1.2.1
  have hn2 : n2 ≤ 9223372036854775807 := hA2.2.1
  have E0 := Aside0.mk (show ([0] : List Int).length = 1 from rfl)
  have E1 := Aside0.mk (show ([1] : List Int).length = 1 from rfl)
  have E2 := Aside0.mk (show ([2] : List Int).length = 1 from rfl)
  have E3 := Aside0.mk (show ([0, 2] : List Int).length = 2 from rfl)
  have E4 := Aside0.mk (show ([2, 2] : List Int).length = 2 from rfl)
  clear hA1 hA2
  go_enter Try.func6, Try.ntmps6
  go_wp2_with (first | (go_at_call 19; (with_reducible refine (within_calls a0 1 12 _ (by decide) (by decide) (by decide)).mono ?_); rintro e_1 w_1 ⟨m0, rfl, hm0, hm1, hb⟩; have HB_n := Aside0.mk (below_step HB.out hb); clear HB; have HB := HB_n; clear HB_n hb; obtain ⟨m, rfl⟩ := Int.eq_ofNat_of_zero_le (show 0 ≤ m0 by omega); have HM := Aside0.mk (show 1 ≤ m ∧ m ≤ 12 by omega); clear hm0 hm1) | (go_at_call 11; (with_reducible refine (sv_new m w _ HB.out HM.out.1 HM.out.2 _ rfl).mono ?_); rintro e_1 w_1 ⟨g, r, rfl, hs⟩; have HS := Aside0.mk hs; clear HB hs))
  have HF := Aside0.mk (show FewLoop w g r m (min (min n1 n2) 60) (min (min n1 n2) 60) (.int .i64 0) w_1 from ⟨0, _, rfl, by omega, HS.out, List.length_replicate, ok_new m⟩)
  obtain ⟨N, hN⟩ : ∃ N, N = min (min n1 n2) 60 := ⟨_, rfl⟩
  rw [← hN] at HF
  go_loopg [10] N (fun k s10 wr => FewLoop w g r m N k s10 wr)
  case atStart => exact HF.out
  case round =>
    clear HF HS
    obtain ⟨i, L, rfl, hik, hs, hL, hO⟩ := hrel
    have HS := Aside0.mk hs
    have HL := Aside0.mk (And.intro hL hO)
    clear hs hL hO
    by_cases hlt : i < N
    · obtain ⟨x, b1, o1, rfl, hx1, hc1⟩ := arg_cell HA1.out (i := i) (by omega)
      obtain ⟨y, b2, o2, rfl, hx2, hc2⟩ := arg_cell HA2.out (i := i) (by omega)
      have HC1 := Aside0.mk hc1
      have HC2 := Aside0.mk hc2
      have hi1 : i < n1 := by omega
      have hi2 : i < n2 := by omega
      have hi3 : i < 60 := by omega
      have t1 : decide ((i : Int) < (n1 : Int)) = true := decide_eq_true (by omega)
      have t2 : decide ((i : Int) < (n2 : Int)) = true := decide_eq_true (by omega)
      have t3 : decide ((i : Int) < 60) = true := decide_eq_true (by omega)
      have hsub : IntKind.i64.wrap ((m : Int) - 1) = (m : Int) - 1 := by have := HM.out; rw [IntKind.wrap_i64]; omega
      clear hx1 hx2 hc1 hc2
      go_wp2_with fail
      obtain ⟨W, hW⟩ : ∃ W, W = wr := ⟨_, rfl⟩
      have HS_n := Aside0.mk (show Sv w W.drew g r L from by rw [hW]; exact HS.out.far (below_drew (Below.refl _ _)))
      rw [← hW]
      clear hW HS
      have HS := HS_n
      clear HS_n
      have HL1 := Aside0.mk (show L.length = m from HL.out.1)
      go_region_held3 (fun W' => W'.cell? ⟨b1, o1 + i, none⟩ = some (.int .i64 x) ∧ W'.cell? ⟨b2, o2 + i, none⟩ = some (.int .i64 y)) (exact ⟨HC1.out _ HS.out.below, HC2.out _ HS.out.below⟩) (first | (go_at_call 19; refine (within_calls x 0 _ _ (by have := HM.out; omega) (by decide) (by have := HM.out; omega)).mono ?_; rintro e_1 w_1 ⟨m0, rfl, hm0, hm1, hb⟩; have hs := HS.out.far hb; have HS_n := Aside0.mk hs; clear HS; have HS := HS_n; clear HS_n hs; clear hm0 hm1 hb) | (go_at_call 12; refine (sv_step m _ y HS.out HL1.out HL.out.2).mono ?_; rintro e_1 w_1 ⟨bq, L2, rfl, hs, _, hL2, hO2⟩; have HL2 := Aside0.mk (And.intro hL2 hO2); have HS_n := Aside0.mk hs; clear HS; have HS := HS_n; clear HS_n hs; clear hL2 hO2))
      obtain ⟨ca, hca⟩ : ∃ ca : Int, (cnt [0] L2 : Int) = ca := ⟨_, rfl⟩
      obtain ⟨cb, hcb⟩ : ∃ cb : Int, (cnt [1] L2 : Int) = cb := ⟨_, rfl⟩
      obtain ⟨cc, hcc⟩ : ∃ cc : Int, (cnt [2] L2 : Int) = cc := ⟨_, rfl⟩
      obtain ⟨p1, p2, p3, _, _, _⟩ := cnt_facts HL2.out.2
      have hm12 := HM.out.2
      have hl2 := HL2.out.1
      obtain ⟨s1, hs1⟩ : ∃ s1 : Int, s1 = ca + cb := ⟨_, rfl⟩
      obtain ⟨s2, hs2⟩ : ∃ s2 : Int, s2 = ca + cc := ⟨_, rfl⟩
      have f1 : decide (ca < 0) = false := decide_eq_false (by omega)
      have f2 : decide (cb < 0) = false := decide_eq_false (by omega)
      have f3 : decide (cc < 0) = false := decide_eq_false (by omega)
      have g1 : wrap64 (ca + cb) = s1 := by unfold wrap64; omega
      have g2 : wrap64 (s1 + cc) = (m : Int) := by unfold wrap64; omega
      have g3 : wrap64 (ca + cc) = s2 := by unfold wrap64; omega
      have FA := Aside0.mk hca
      have FB := Aside0.mk hcb
      have FC := Aside0.mk hcc
      have FD := Aside0.mk (show (cnt [0, 2] L2 : Int) = s2 by omega)
      have FE := Aside0.mk (show (cnt [2, 2] L2 : Int) = cc by omega)
      have LM := Aside0.mk (show L2.length ≤ 1000 by omega)
      clear hca hcb hcc p1 p2 p3 hm12 hl2 hs1 hs2 HL
      go_wp2_with (first | (go_at_call 16; (with_reducible refine (sv_few _ 1 1 [0] ca (HS.out.far (below_alloc (Below.refl _ _) _)) (rd_lit1 _ 0) E0.out (by decide) (by decide) LM.out FA.out).mono ?_); rintro e_1 w_1 ⟨rfl, hs⟩; have HS_n := Aside0.mk hs; clear HS; have HS := HS_n; clear HS_n hs) | (go_at_call 16; (with_reducible refine (sv_few _ 1 1 [1] cb (HS.out.far (below_alloc (Below.refl _ _) _)) (rd_lit1 _ 1) E1.out (by decide) (by decide) LM.out FB.out).mono ?_); rintro e_1 w_1 ⟨rfl, hs⟩; have HS_n := Aside0.mk hs; clear HS; have HS := HS_n; clear HS_n hs) | (go_at_call 16; (with_reducible refine (sv_few _ 1 1 [2] cc (HS.out.far (below_alloc (Below.refl _ _) _)) (rd_lit1 _ 2) E2.out (by decide) (by decide) LM.out FC.out).mono ?_); rintro e_1 w_1 ⟨rfl, hs⟩; have HS_n := Aside0.mk hs; clear HS; have HS := HS_n; clear HS_n hs) | (go_at_call 16; (with_reducible refine (sv_few _ 2 2 [0, 2] s2 (HS.out.far (below_alloc (Below.refl _ _) _)) (rd_lit2 _ 0 2) E3.out (by decide) (by decide) LM.out FD.out).mono ?_); rintro e_1 w_1 ⟨rfl, hs⟩; have HS_n := Aside0.mk hs; clear HS; have HS := HS_n; clear HS_n hs) | (go_at_call 16; (with_reducible refine (sv_few _ 2 2 [2, 2] cc (HS.out.far (below_alloc (Below.refl _ _) _)) (rd_lit2 _ 2 2) E4.out (by decide) (by decide) LM.out FE.out).mono ?_); rintro e_1 w_1 ⟨rfl, hs⟩; have HS_n := Aside0.mk hs; clear HS; have HS := HS_n; clear HS_n hs))
      go_roundg (N - (i + 1))
      case measure => omega
      case rel => exact ⟨i + 1, L2, by go_num, by omega, HS.out, HL2.out.1, HL2.out.2⟩
    · obtain rfl : i = N := by omega
      by_cases k1 : i < n1
      · have t1 : decide ((i : Int) < (n1 : Int)) = true := decide_eq_true (by omega)
        by_cases k2 : i < n2
        · have t2 : decide ((i : Int) < (n2 : Int)) = true := decide_eq_true (by omega)
          have k3 : ¬ i < 60 := by omega
          have t3 : decide ((i : Int) < 60) = false := decide_eq_false (by omega)
          go_wp2_with (go_at_call 3; (with_reducible refine (runs_calls _).mono ?_); rintro e_1 w_1 ⟨rfl, hb⟩; have HB2 := Aside0.mk (below_then HS.out.below HS.out.below.size hb); clear hb)
          go_ret
          exact ⟨rfl, HB2.out⟩
        · have t2 : decide ((i : Int) < (n2 : Int)) = false := decide_eq_false (by omega)
          go_wp2_with (go_at_call 3; (with_reducible refine (runs_calls _).mono ?_); rintro e_1 w_1 ⟨rfl, hb⟩; have HB2 := Aside0.mk (below_then HS.out.below HS.out.below.size hb); clear hb)
          go_ret
          exact ⟨rfl, HB2.out⟩
      · have t1 : decide ((i : Int) < (n1 : Int)) = false := decide_eq_false (by omega)
        go_wp2_with (go_at_call 3; (with_reducible refine (runs_calls _).mono ?_); rintro e_1 w_1 ⟨rfl, hb⟩; have HB2 := Aside0.mk (below_then HS.out.below HS.out.below.size hb); clear hb)
        go_ret
        exact ⟨rfl, HB2.out⟩
end Go.Proofs.Ytnfnbcbbiaheeaa.Vw
