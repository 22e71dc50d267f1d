/- The model: ModelCounts answers true. -/
import Derived.Test.YtepklobkppdliaaDoorMd17
import Derived.Deep.LoopGhost
namespace Go.Proofs.YtepklobkppdliaaDoor.Md
open Go.RowKit Go.Proofs.YtepklobkppdliaaDoorW.PrintWords Go.Proofs.YtepklobkppdliaaDoorW.PrintLast Go.Proofs.YtepklobkppdliaaDoorW.PrintMore Go.Proofs.YtepklobkppdliaaDoor.Lib Go.Proofs.YtepklobkppdliaaDoor.Open Go.Proofs.YtepklobkppdliaaDoor.Open
/-- A number of 64 bits. -/
structure U64 where
  x : Int
  h0 : 0 ≤ x
  h1 : x < 18446744073709551616
def ucl (u : U64) : List Value := [.int .u64 u.x]
def bcl (b : Bool) : List Value := [.bool b]
def scl (b : ByteArray) : List Value := [.string b]
theorem wf_u64 {x : Int} (h : (Lit.int .u64 x).wf = true) : 0 ≤ x ∧ x < 18446744073709551616 := by
  have h1 : IntKind.u64.min = 0 := rfl
  have h2 : IntKind.u64.max = 18446744073709551615 := by decide
  simp [Lit.wf] at h
  omega
theorem mk_u (cs : List Value) (h : Fits [.int .u64] cs) : ∃ a, cs = ucl a := by
  obtain ⟨x, r, rfl, hw, h⟩ := h
  obtain rfl : r = [] := h
  have := wf_u64 hw
  exact ⟨⟨x, this.1, this.2⟩, rfl⟩
theorem mk_b (cs : List Value) (h : Fits [.bool] cs) : ∃ a, cs = bcl a := by
  obtain ⟨x, r, rfl, h⟩ := h
  obtain rfl : r = [] := h
  exact ⟨x, rfl⟩
theorem mk_s (cs : List Value) (h : Fits [.str] cs) : ∃ a, cs = scl a := by
  obtain ⟨x, r, rfl, _, h⟩ := h
  obtain rfl : r = [] := h
  exact ⟨x, rfl⟩
set_option maxHeartbeats 16000000 in
set_option maxRecDepth 100000 in
theorem counts_calls (x : Nat) (hx : x < 18446744073709551616) (A1 : Option Addr) (n1 c1 : Nat) (us : List U64) (A2 : Option Addr) (n2 c2 : Nat) (ds : List Bool) (w : World) (ht : Pow w) (hu : Arg ucl w A1 n1 us) (hv : Arg bcl w A2 n2 ds) :
    Calls Tryd.prog 5 #[.int .u64 (x : Int), .slice A1 n1 c1, .slice A2 n2 c2] w fun e w' => e = .returned (.bool true) ∧ Below w.heap.size w w' := by
  have HU := Aside0.mk hu
  have HV := Aside0.mk hv
  have HL1 := Aside0.mk hu.2.1
  clear hu hv
  have HT := Aside0.mk ht
  have HB := Aside0.mk (Below.refl w.heap.size w)
  have H0 := Aside0.mk ht.lt
  clear ht
  go_enter Tryd.func5, Tryd.ntmps5
  go_wp2_with fail
  go_at_call 14
  refine (new_calls _).mono ?_
  rintro e_0 w_0 ⟨g, b, rfl, hmd, hg, hbg, hb⟩
  have HG := Aside0.mk (And.intro hbg H0.out)
  have HM := Aside0.mk hmd
  clear hmd hg hbg H0
  have HT_n := Aside0.mk (HT.out.below hb)
  have HB_n := Aside0.mk (HB.out.trans (hb.mono HB.out.size))
  clear HT; have HT := HT_n; clear HT_n
  clear HB; have HB := HB_n; clear HB_n
  clear hb
  go_wp2_with fail
  go_at_call 20
  refine (fmt_calls x hx _ HT.out).mono ?_
  rintro e_1 w_1 ⟨rfl, hb⟩
  have HT_n := Aside0.mk (HT.out.below hb)
  have HB_n := Aside0.mk (HB.out.trans (hb.mono HB.out.size))
  have HM_n := Aside0.mk (HM.out.below hb)
  clear HT; have HT := HT_n; clear HT_n
  clear HB; have HB := HB_n; clear HB_n
  clear HM; have HM := HM_n; clear HM_n
  clear hb
  go_wp2_with fail
  go_at_call 15
  refine (of_calls 3 kN (dec x) 0 _).mono ?_
  rintro e_2 w_2 ⟨gk, rfl, hck, hge, hb⟩
  have CK := Aside0.mk (blk_cell hck 0)
  clear hck hge
  have HT_n := Aside0.mk (HT.out.below hb)
  have HB_n := Aside0.mk (HB.out.trans (hb.mono HB.out.size))
  have HM_n := Aside0.mk (HM.out.below hb)
  clear HT; have HT := HT_n; clear HT_n
  clear HB; have HB := HB_n; clear HB_n
  clear HM; have HM := HM_n; clear HM_n
  clear hb
  simp only [rqOf, Rq.c]
  go_wp2_with fail
  go_at_call 16
  refine (apply_one g b _ (f0) ({ rqOf 3 (dec x) 0 with fl := 0 }) kN ⟨gk, 0, none⟩ 1 _ _ _ HM.out (by decide) (by decide) CK.out (show (3 : Int) ≠ 1 ∧ (3 : Int) ≠ 2 ∧ (3 : Int) ≠ 13 by decide) HT.out (Nat.le_trans (dec_size x hx) (by decide)) (show (0 : Int) ≤ 0 by decide)).mono ?_
  rintro e_3 w_3 ⟨rfl, hmd, hm⟩
  rw [to_set kN (dec x) 0 0 1] at hmd ⊢
  simp only [An.c, ans, say]
  clear CK
  have HT_n := Aside0.mk (HT.out.mod hm (fun e => by have := HG.out; omega))
  have HB_n := Aside0.mk (hm.after HB.out HB.out.size (fun q hq => by rw [hq]; exact HG.out.1))
  clear HT; have HT := HT_n; clear HT_n
  clear HB; have HB := HB_n; clear HB_n
  clear HM; have HM := Aside0.mk hmd; clear hmd hm
  obtain ⟨N, hN⟩ : ∃ N, N = min n1 30 := ⟨_, rfl⟩
  have HN := Aside0.mk hN
  clear hN
  go_wp2_with fail
  go_loopg [8, 9] N (fun R s8 s9 wr => ∃ (i m : Nat) (c : Int), i + R = N ∧ s8 = .int .u64 (m : Int) ∧ s9 = .int .i64 (i : Int) ∧ m < 18446744073709551616 ∧ Md wr g b (i + 1) (Fk kN (dec m) 0 c) ∧ Pow wr ∧ Below w.heap.size w wr)
  case atStart => exact ⟨0, x, 1, by omega, rfl, rfl, hx, HM.out, HT.out, HB.out⟩
  case round =>
    clear HM HT HB
    obtain ⟨i, m, c, hi, rfl, rfl, hm, hM, hT, hB⟩ := hrel
    have HM := Aside0.mk hM
    have HT := Aside0.mk hT
    have HB := Aside0.mk hB
    have HMM := Aside0.mk hm
    clear hM hT hB
    have HI := Aside0.mk hi
    by_cases hlt : i < N
    · have HL := Aside0.mk (show i < n1 ∧ i < 30 by have := HN.out; omega)
      have r1 : decide ((i : Int) < (n1 : Int)) = true := decide_eq_true (by have := HL.out; omega)
      have r2 : decide ((i : Int) < 30) = true := decide_eq_true (by have := HL.out; omega)
      have r1' : (i : Int) < (n1 : Int) := by have := HL.out; omega
      have r2' : (i : Int) < 30 := by have := HL.out; omega
      obtain ⟨d, hd⟩ : ∃ d, us[i]? = some d := ⟨_, List.getElem?_eq_getElem (by have := HL.out; have := HU.out.1; omega)⟩
      obtain ⟨d, hd0, hd1⟩ := d
      obtain ⟨b1, o1, rfl, ce⟩ := Arg.far HU.out HB.out i ⟨d, hd0, hd1⟩ (.int .u64 d) (fun _ => rfl) hd rfl
      have HD := Aside0.mk (And.intro hd0 hd1)
      clear hd hi hlt hm hd0 hd1
      by_cases hl2 : i < n2
      · have r3 : decide ((i : Int) < (n2 : Int)) = true := decide_eq_true (by omega)
        have r3' : (i : Int) < (n2 : Int) := by omega
        obtain ⟨dn, hdn⟩ : ∃ d, ds[i]? = some d := ⟨_, List.getElem?_eq_getElem (by have := HV.out.1; omega)⟩
        obtain ⟨b2, o2, rfl, ce2⟩ := Arg.far HV.out HB.out i dn (.bool dn) (fun _ => rfl) hdn rfl
        clear hdn hl2
        cases dn
        · go_wp2_with fail
          go_at_call 15
          refine (of_calls 10 kN eA d _).mono ?_
          rintro e_54 w_5 ⟨gk, rfl, hck, hge, hb⟩
          have CK := Aside0.mk (blk_cell hck 0)
          clear hck hge
          have HT_n := Aside0.mk (HT.out.below hb)
          have HB_n := Aside0.mk (HB.out.trans (hb.mono HB.out.size))
          have HM_n := Aside0.mk (HM.out.below hb)
          clear HT; have HT := HT_n; clear HT_n
          clear HB; have HB := HB_n; clear HB_n
          clear HM; have HM := HM_n; clear HM_n
          clear hb
          simp only [rqOf, Rq.c]
          go_wp2_with fail
          go_at_call 16
          refine (apply_one g b _ (Fk kN (dec m) 0 c) (rqOf 10 eA d) kN ⟨gk, 0, none⟩ 1 _ _ _ HM.out (by have := HL.out; unfold maxLen; omega) (by decide) CK.out (show (10 : Int) ≠ 1 ∧ (10 : Int) ≠ 2 ∧ (10 : Int) ≠ 13 by decide) HT.out (show eA.size ≤ 140737488355328 by decide) HD.out.1).mono ?_
          rintro e_55 w_6 ⟨rfl, hmd, hm⟩
          rw [to_up kN m HMM.out 0 c] at hmd ⊢
          simp only [An.c, ans]
          clear CK
          have HT_n := Aside0.mk (HT.out.mod hm (fun e => by have := HG.out; omega))
          have HB_n := Aside0.mk (hm.after HB.out HB.out.size (fun q hq => by rw [hq]; exact HG.out.1))
          clear HT; have HT := HT_n; clear HT_n
          clear HB; have HB := HB_n; clear HB_n
          clear HM; have HM := Aside0.mk hmd; clear hmd hm
          go_wp2_with fail
          go_roundg (N - (i + 1))
          case measure => have := HI.out; have := HL.out; have := HN.out; omega
          case rel =>
            have h1 := HMM.out
            have h2 := HD.out
            have h3 : 0 ≤ IntKind.u64.wrap ((m : Int) + d) ∧ IntKind.u64.wrap ((m : Int) + d) < 18446744073709551616 := by rw [IntKind.wrap_u64]; omega
            exact ⟨i + 1, (IntKind.u64.wrap ((m : Int) + d)).toNat, _, by have := HI.out; have := HL.out; have := HN.out; omega, by rw [show (((IntKind.u64.wrap ((m : Int) + d)).toNat : Nat) : Int) = IntKind.u64.wrap ((m : Int) + d) by omega], by go_num, by omega, HM.out.below (below_alloc (Below.refl _ _) _), HT.out.alloc _, HB.out.trans ((below_alloc (Below.refl _ _) _).mono HB.out.size)⟩
        · go_wp2_with fail
          go_at_call 15
          refine (of_calls 11 kN eA d _).mono ?_
          rintro e_54 w_5 ⟨gk, rfl, hck, hge, hb⟩
          have CK := Aside0.mk (blk_cell hck 0)
          clear hck hge
          have HT_n := Aside0.mk (HT.out.below hb)
          have HB_n := Aside0.mk (HB.out.trans (hb.mono HB.out.size))
          have HM_n := Aside0.mk (HM.out.below hb)
          clear HT; have HT := HT_n; clear HT_n
          clear HB; have HB := HB_n; clear HB_n
          clear HM; have HM := HM_n; clear HM_n
          clear hb
          simp only [rqOf, Rq.c]
          go_wp2_with fail
          go_at_call 16
          refine (apply_one g b _ (Fk kN (dec m) 0 c) (rqOf 11 eA d) kN ⟨gk, 0, none⟩ 1 _ _ _ HM.out (by have := HL.out; unfold maxLen; omega) (by decide) CK.out (show (11 : Int) ≠ 1 ∧ (11 : Int) ≠ 2 ∧ (11 : Int) ≠ 13 by decide) HT.out (show eA.size ≤ 140737488355328 by decide) HD.out.1).mono ?_
          rintro e_55 w_6 ⟨rfl, hmd, hm⟩
          rw [to_down kN m HMM.out 0 c _ _ d HD.out.1] at hmd ⊢
          simp only [An.c, ans]
          clear CK
          have HT_n := Aside0.mk (HT.out.mod hm (fun e => by have := HG.out; omega))
          have HB_n := Aside0.mk (hm.after HB.out HB.out.size (fun q hq => by rw [hq]; exact HG.out.1))
          clear HT; have HT := HT_n; clear HT_n
          clear HB; have HB := HB_n; clear HB_n
          clear HM; have HM := Aside0.mk hmd; clear hmd hm
          go_wp2_with fail
          go_roundg (N - (i + 1))
          case measure => have := HI.out; have := HL.out; have := HN.out; omega
          case rel =>
            have h1 := HMM.out
            have h2 := HD.out
            have h3 : 0 ≤ IntKind.u64.wrap ((m : Int) - min (m : Int) d) ∧ IntKind.u64.wrap ((m : Int) - min (m : Int) d) < 18446744073709551616 := by rw [IntKind.wrap_u64]; omega
            exact ⟨i + 1, (IntKind.u64.wrap ((m : Int) - min (m : Int) d)).toNat, _, by have := HI.out; have := HL.out; have := HN.out; omega, by rw [show (((IntKind.u64.wrap ((m : Int) - min (m : Int) d)).toNat : Nat) : Int) = IntKind.u64.wrap ((m : Int) - min (m : Int) d) by omega], by go_num, by omega, HM.out.below (below_alloc (Below.refl _ _) _), HT.out.alloc _, HB.out.trans ((below_alloc (Below.refl _ _) _).mono HB.out.size)⟩
      · have r3 : decide ((i : Int) < (n2 : Int)) = false := decide_eq_false (by omega)
        have r3' : ¬ (i : Int) < (n2 : Int) := by omega
        clear hl2
        go_wp2_with fail
        go_at_call 15
        refine (of_calls 10 kN eA d _).mono ?_
        rintro e_54 w_5 ⟨gk, rfl, hck, hge, hb⟩
        have CK := Aside0.mk (blk_cell hck 0)
        clear hck hge
        have HT_n := Aside0.mk (HT.out.below hb)
        have HB_n := Aside0.mk (HB.out.trans (hb.mono HB.out.size))
        have HM_n := Aside0.mk (HM.out.below hb)
        clear HT; have HT := HT_n; clear HT_n
        clear HB; have HB := HB_n; clear HB_n
        clear HM; have HM := HM_n; clear HM_n
        clear hb
        simp only [rqOf, Rq.c]
        go_wp2_with fail
        go_at_call 16
        refine (apply_one g b _ (Fk kN (dec m) 0 c) (rqOf 10 eA d) kN ⟨gk, 0, none⟩ 1 _ _ _ HM.out (by have := HL.out; unfold maxLen; omega) (by decide) CK.out (show (10 : Int) ≠ 1 ∧ (10 : Int) ≠ 2 ∧ (10 : Int) ≠ 13 by decide) HT.out (show eA.size ≤ 140737488355328 by decide) HD.out.1).mono ?_
        rintro e_55 w_6 ⟨rfl, hmd, hm⟩
        rw [to_up kN m HMM.out 0 c] at hmd ⊢
        simp only [An.c, ans]
        clear CK
        have HT_n := Aside0.mk (HT.out.mod hm (fun e => by have := HG.out; omega))
        have HB_n := Aside0.mk (hm.after HB.out HB.out.size (fun q hq => by rw [hq]; exact HG.out.1))
        clear HT; have HT := HT_n; clear HT_n
        clear HB; have HB := HB_n; clear HB_n
        clear HM; have HM := Aside0.mk hmd; clear hmd hm
        go_wp2_with fail
        go_roundg (N - (i + 1))
        case measure => have := HI.out; have := HL.out; have := HN.out; omega
        case rel =>
          have h1 := HMM.out
          have h2 := HD.out
          have h3 : 0 ≤ IntKind.u64.wrap ((m : Int) + d) ∧ IntKind.u64.wrap ((m : Int) + d) < 18446744073709551616 := by rw [IntKind.wrap_u64]; omega
          exact ⟨i + 1, (IntKind.u64.wrap ((m : Int) + d)).toNat, _, by have := HI.out; have := HL.out; have := HN.out; omega, by rw [show (((IntKind.u64.wrap ((m : Int) + d)).toNat : Nat) : Int) = IntKind.u64.wrap ((m : Int) + d) by omega], by go_num, by omega, HM.out.below (below_alloc (Below.refl _ _) _), HT.out.alloc _, HB.out.trans ((below_alloc (Below.refl _ _) _).mono HB.out.size)⟩
    · by_cases hl2 : i < n1
      · have r1 : decide ((i : Int) < (n1 : Int)) = true := decide_eq_true (by omega)
        have r2 : decide ((i : Int) < 30) = false := decide_eq_false (by have := HN.out; omega)
        have r1' : (i : Int) < (n1 : Int) := by omega
        have r2' : ¬ (i : Int) < 30 := by have := HN.out; omega
        have HI2 := Aside0.mk (show i ≤ 30 by have := HN.out; omega)
        clear hi hlt hm hl2
        go_wp2_with fail
        go_at_call 15
        refine (of_calls 1 kN eA 0 _).mono ?_
        rintro e_54 w_5 ⟨gk, rfl, hck, hge, hb⟩
        have CK := Aside0.mk (blk_cell hck 0)
        clear hck hge
        have HT_n := Aside0.mk (HT.out.below hb)
        have HB_n := Aside0.mk (HB.out.trans (hb.mono HB.out.size))
        have HM_n := Aside0.mk (HM.out.below hb)
        clear HT; have HT := HT_n; clear HT_n
        clear HB; have HB := HB_n; clear HB_n
        clear HM; have HM := HM_n; clear HM_n
        clear hb
        simp only [rqOf, Rq.c]
        go_wp2_with fail
        go_at_call 16
        have HKs := Aside0.mk (show Ks _ (some ⟨gk, 0, none⟩) [kN] from ks_one CK.out (by decide))
        refine (apply_get1 g b _ (Fk kN (dec m) 0 c) (rqOf 1 eA 0) (some ⟨gk, 0, none⟩) 1 [kN] _ _ _ HM.out HKs.out (by decide) rfl).mono ?_
        rintro e_55 w_6 ⟨v, rfl, hown, hb⟩
        rw [Fk.founds] at hown
        obtain ⟨Av, cv, rfl⟩ := own_slice hown
        have RV := Aside0.mk hown
        clear hown HKs CK
        simp only [ansV]
        have HT_n := Aside0.mk (HT.out.below hb)
        have HB_n := Aside0.mk (HB.out.trans (hb.mono HB.out.size))
        have HM_n := Aside0.mk (HM.out.below hb)
        clear HT; have HT := HT_n; clear HT_n
        clear HB; have HB := HB_n; clear HB_n
        clear HM; have HM := HM_n; clear HM_n
        clear hb
        have h5 := RV.out
        obtain ⟨go, rfl⟩ : ∃ go, Av = some ⟨go, 0, none⟩ := by
          rcases h5.2 with ⟨e, hz⟩ | ⟨go, cap, cur, e, _⟩
          · simp at hz
          · injection e with e1
            exact ⟨go, e1⟩
        have q1 : ∀ n : Wd (w_6.alloc (.cells #[.int .i64 1, .slice (some ⟨go, 0, none⟩) 1 cv, .bool false, .int .u64 0, .string ⟨#[]⟩, .int .i64 0, .int .i64 0, .int .i64 0, .int .i64 0] 32)), n.w.cell? ⟨w_6.heap.size, 1, none⟩ = some (.slice (some ⟨go, 0, none⟩) 1 cv) := Wd.cell (blk_cell (blk_new w_6 _) 1)
        have q2 : ∀ n : Wd (w_6.alloc (.cells #[.int .i64 1, .slice (some ⟨go, 0, none⟩) 1 cv, .bool false, .int .u64 0, .string ⟨#[]⟩, .int .i64 0, .int .i64 0, .int .i64 0, .int .i64 0] 32)), n.w.cell? ⟨go, 2, none⟩ = some (.string (dec m)) := Wd.cell ((own_alloc h5 _).cellAt 2 (by simp))
        have HTn := Aside0.mk (HT.out.alloc (.cells (ansV (.slice (some ⟨go, 0, none⟩) 1 cv) false) 32))
        have HBn := Aside0.mk (below_step HB.out (below_alloc (Below.refl _ _) (.cells (ansV (.slice (some ⟨go, 0, none⟩) 1 cv) false) 32)))
        clear HT HB h5 RV HM
        go_wp2_with fail
        refine wp_quiet_wd (by kernel_rfl) (by kernel_rfl) ?_
        repeat (go_big_quiet_step (first | (go_at_call 20; refine (fmt_calls m HMM.out _ (HTn.out.below (Wd.h _))).mono ?_; rintro e_1 w_1 ⟨rfl, hb⟩; exact ⟨rfl, ⟨w_1, below_step (Wd.h _) hb⟩, rfl⟩) | (go_at_call 3; refine (runs_calls _ (HTn.out.below (Wd.h _))).mono ?_; rintro e_1 w_1 ⟨rfl, hb⟩; exact ⟨rfl, ⟨w_1, below_step (Wd.h _) hb⟩, rfl⟩)))
        refine wpQuiet_nil ?_
        rintro _ ⟨nw, rfl⟩
        go_wp2
        go_ret
        exact ⟨rfl, HBn.out.trans (nw.h.mono HBn.out.size)⟩
      · have r1 : decide ((i : Int) < (n1 : Int)) = false := decide_eq_false (by omega)
        have r1' : ¬ (i : Int) < (n1 : Int) := by omega
        have HI2 := Aside0.mk (show i ≤ 30 by have := HN.out; omega)
        clear hi hlt hm hl2
        go_wp2_with fail
        go_at_call 15
        refine (of_calls 1 kN eA 0 _).mono ?_
        rintro e_54 w_5 ⟨gk, rfl, hck, hge, hb⟩
        have CK := Aside0.mk (blk_cell hck 0)
        clear hck hge
        have HT_n := Aside0.mk (HT.out.below hb)
        have HB_n := Aside0.mk (HB.out.trans (hb.mono HB.out.size))
        have HM_n := Aside0.mk (HM.out.below hb)
        clear HT; have HT := HT_n; clear HT_n
        clear HB; have HB := HB_n; clear HB_n
        clear HM; have HM := HM_n; clear HM_n
        clear hb
        simp only [rqOf, Rq.c]
        go_wp2_with fail
        go_at_call 16
        have HKs := Aside0.mk (show Ks _ (some ⟨gk, 0, none⟩) [kN] from ks_one CK.out (by decide))
        refine (apply_get1 g b _ (Fk kN (dec m) 0 c) (rqOf 1 eA 0) (some ⟨gk, 0, none⟩) 1 [kN] _ _ _ HM.out HKs.out (by decide) rfl).mono ?_
        rintro e_55 w_6 ⟨v, rfl, hown, hb⟩
        rw [Fk.founds] at hown
        obtain ⟨Av, cv, rfl⟩ := own_slice hown
        have RV := Aside0.mk hown
        clear hown HKs CK
        simp only [ansV]
        have HT_n := Aside0.mk (HT.out.below hb)
        have HB_n := Aside0.mk (HB.out.trans (hb.mono HB.out.size))
        have HM_n := Aside0.mk (HM.out.below hb)
        clear HT; have HT := HT_n; clear HT_n
        clear HB; have HB := HB_n; clear HB_n
        clear HM; have HM := HM_n; clear HM_n
        clear hb
        have h5 := RV.out
        obtain ⟨go, rfl⟩ : ∃ go, Av = some ⟨go, 0, none⟩ := by
          rcases h5.2 with ⟨e, hz⟩ | ⟨go, cap, cur, e, _⟩
          · simp at hz
          · injection e with e1
            exact ⟨go, e1⟩
        have q1 : ∀ n : Wd (w_6.alloc (.cells #[.int .i64 1, .slice (some ⟨go, 0, none⟩) 1 cv, .bool false, .int .u64 0, .string ⟨#[]⟩, .int .i64 0, .int .i64 0, .int .i64 0, .int .i64 0] 32)), n.w.cell? ⟨w_6.heap.size, 1, none⟩ = some (.slice (some ⟨go, 0, none⟩) 1 cv) := Wd.cell (blk_cell (blk_new w_6 _) 1)
        have q2 : ∀ n : Wd (w_6.alloc (.cells #[.int .i64 1, .slice (some ⟨go, 0, none⟩) 1 cv, .bool false, .int .u64 0, .string ⟨#[]⟩, .int .i64 0, .int .i64 0, .int .i64 0, .int .i64 0] 32)), n.w.cell? ⟨go, 2, none⟩ = some (.string (dec m)) := Wd.cell ((own_alloc h5 _).cellAt 2 (by simp))
        have HTn := Aside0.mk (HT.out.alloc (.cells (ansV (.slice (some ⟨go, 0, none⟩) 1 cv) false) 32))
        have HBn := Aside0.mk (below_step HB.out (below_alloc (Below.refl _ _) (.cells (ansV (.slice (some ⟨go, 0, none⟩) 1 cv) false) 32)))
        clear HT HB h5 RV HM
        go_wp2_with fail
        refine wp_quiet_wd (by kernel_rfl) (by kernel_rfl) ?_
        repeat (go_big_quiet_step (first | (go_at_call 20; refine (fmt_calls m HMM.out _ (HTn.out.below (Wd.h _))).mono ?_; rintro e_1 w_1 ⟨rfl, hb⟩; exact ⟨rfl, ⟨w_1, below_step (Wd.h _) hb⟩, rfl⟩) | (go_at_call 3; refine (runs_calls _ (HTn.out.below (Wd.h _))).mono ?_; rintro e_1 w_1 ⟨rfl, hb⟩; exact ⟨rfl, ⟨w_1, below_step (Wd.h _) hb⟩, rfl⟩)))
        refine wpQuiet_nil ?_
        rintro _ ⟨nw, rfl⟩
        go_wp2
        go_ret
        exact ⟨rfl, HBn.out.trans (nw.h.mono HBn.out.size)⟩
theorem counts_card (x : Int) (hx : (Lit.int .u64 x).wf = true) (A1 : Option Addr) (n1 c1 : Nat) (us : List U64) (A2 : Option Addr) (n2 c2 : Nat) (ds : List Bool) (w : World) (ht : Pow w) (hu : Arg ucl w A1 n1 us) (hv : Arg bcl w A2 n2 ds) :
    Calls Tryd.prog 5 #[.int .u64 x, .slice A1 n1 c1, .slice A2 n2 c2] w fun e w' => e = .returned (.bool true) ∧ Below w.heap.size w w' := by
  have h := wf_u64 hx
  obtain ⟨n, rfl⟩ : ∃ n : Nat, x = (n : Int) := ⟨x.toNat, by omega⟩
  exact counts_calls n (by omega) A1 n1 c1 us A2 n2 c2 ds w ht hu hv
end Go.Proofs.YtepklobkppdliaaDoor.Md
