/- The model: ModelCas answers true. -/
import Derived.Test.YtepklobkppdliaaDoorMd19
namespace Go.Proofs.YtepklobkppdliaaDoor.Md
open Go.RowKit Go.Proofs.YtepklobkppdliaaDoorW.PrintWords Go.Proofs.YtepklobkppdliaaDoorW.PrintLast Go.Proofs.YtepklobkppdliaaDoorW.PrintMore Go.Proofs.YtepklobkppdliaaDoor.Lib Go.Proofs.YtepklobkppdliaaDoor.Open Go.Proofs.YtepklobkppdliaaDoor.Open
set_option maxHeartbeats 16000000 in
set_option maxRecDepth 100000 in
theorem cas_long (st : ByteArray) (hs : 200 < st.size) (v1 v2 : Value) (w : World) (ht : Pow w) :
    Calls Tryd.prog 7 #[.string st, v1, v2] w fun e w' => e = .returned (.bool true) ∧ Below w.heap.size w w' := by
  have r0 : decide ((200 : Int) < (st.size : Int)) = true := decide_eq_true (by omega)
  have HT := Aside0.mk ht
  have HB := Aside0.mk (Below.refl w.heap.size w)
  have H0 := Aside0.mk ht.lt
  clear ht
  go_enter Tryd.func7, Tryd.ntmps7
  go_wp2_with fail
  go_at_call 14
  refine (new_calls _).mono ?_
  rintro e_0 w_0 ⟨g, b, rfl, hmd, hg, hbg, hb⟩
  have HG := Aside0.mk (And.intro hbg H0.out)
  have HM := Aside0.mk hmd
  clear hmd hg hbg H0
  have HT_n := Aside0.mk (HT.out.below hb)
  have HB_n := Aside0.mk (HB.out.trans (hb.mono HB.out.size))
  clear HT; have HT := HT_n; clear HT_n
  clear HB; have HB := HB_n; clear HB_n
  clear hb
  go_wp2_with fail
  go_at_call 3
  refine (runs_calls _ HT.out).mono ?_
  rintro e_1 w_1 ⟨rfl, hb⟩
  have HB_n := Aside0.mk (HB.out.trans (hb.mono HB.out.size))
  clear HB HT HM hb
  go_wp2
  go_ret
  exact ⟨rfl, HB_n.out⟩
set_option maxHeartbeats 16000000 in
set_option maxRecDepth 100000 in
theorem cas_calls (st : ByteArray) (hs : st.size ≤ 200) (A1 : Option Addr) (n1 c1 : Nat) (ps : List ByteArray) (tc : Bool) (w : World) (ht : Pow w) (hu : Arg scl w A1 n1 ps) :
    Calls Tryd.prog 7 #[.string st, .slice A1 n1 c1, .bool tc] w fun e w' => e = .returned (.bool true) ∧ Below w.heap.size w w' := by
  have HU := Aside0.mk hu
  have HL1 := Aside0.mk hu.2.1
  clear hu
  have r0 : decide ((200 : Int) < (st.size : Int)) = false := decide_eq_false (by omega)
  have HT := Aside0.mk ht
  have HB := Aside0.mk (Below.refl w.heap.size w)
  have H0 := Aside0.mk ht.lt
  clear ht
  go_enter Tryd.func7, Tryd.ntmps7
  go_wp2_with fail
  go_at_call 14
  refine (new_calls _).mono ?_
  rintro e_0 w_0 ⟨g, b, rfl, hmd, hg, hbg, hb⟩
  have HG := Aside0.mk (And.intro hbg H0.out)
  have HM := Aside0.mk hmd
  clear hmd hg hbg H0
  have HT_n := Aside0.mk (HT.out.below hb)
  have HB_n := Aside0.mk (HB.out.trans (hb.mono HB.out.size))
  clear HT; have HT := HT_n; clear HT_n
  clear HB; have HB := HB_n; clear HB_n
  clear hb
  go_wp2_with fail
  go_at_call 15
  refine (of_calls 3 kK st 0 _).mono ?_
  rintro e_1 w_1 ⟨gk, rfl, hck, hge, hb⟩
  have CK := Aside0.mk (blk_cell hck 0)
  clear hck hge
  have HT_n := Aside0.mk (HT.out.below hb)
  have HB_n := Aside0.mk (HB.out.trans (hb.mono HB.out.size))
  have HM_n := Aside0.mk (HM.out.below hb)
  clear HT; have HT := HT_n; clear HT_n
  clear HB; have HB := HB_n; clear HB_n
  clear HM; have HM := HM_n; clear HM_n
  clear hb
  simp only [rqOf, Rq.c]
  go_wp2_with fail
  go_at_call 16
  refine (apply_one g b _ (f0) ({ rqOf 3 st 0 with fl := 0 }) kK ⟨gk, 0, none⟩ 1 _ _ _ HM.out (by decide) (by decide) CK.out (show (3 : Int) ≠ 1 ∧ (3 : Int) ≠ 2 ∧ (3 : Int) ≠ 13 by decide) HT.out (show st.size ≤ 140737488355328 by omega) (show (0 : Int) ≤ 0 by decide)).mono ?_
  rintro e_2 w_2 ⟨rfl, hmd, hm⟩
  rw [to_set kK st 0 1 7] at hmd ⊢
  simp only [An.c, ans, say]
  clear CK
  have HT_n := Aside0.mk (HT.out.mod hm (fun e => by have := HG.out; omega))
  have HB_n := Aside0.mk (hm.after HB.out HB.out.size (fun q hq => by rw [hq]; exact HG.out.1))
  clear HT; have HT := HT_n; clear HT_n
  clear HB; have HB := HB_n; clear HB_n
  clear HM; have HM := Aside0.mk hmd; clear hmd hm
  cases tc
  · go_wp2_with fail
    refine calls_at (fun W => Below w_2.heap.size w_2 W ∧ W.heap[w_2.heap.size]? = some (.cells #[.string kK] 9 (0, 0))) (⟨below_alloc (Below.refl _ _) _, blk_new w_2 (.cells #[.string kK] 9)⟩) (fun W hW => ?_)
    rcases hW with ⟨hb, h2⟩
    have CK := Aside0.mk (blk_cell h2 0)
    clear h2
    obtain ⟨gk, hgk⟩ : ∃ gk, gk = w_2.heap.size := ⟨_, rfl⟩
    rw [← hgk] at CK ⊢
    clear hgk
    have HT_n := Aside0.mk (HT.out.below hb)
    have HB_n := Aside0.mk (HB.out.trans (hb.mono HB.out.size))
    have HM_n := Aside0.mk (HM.out.below hb)
    clear HT; have HT := HT_n; clear HT_n
    clear HB; have HB := HB_n; clear HB_n
    clear HM; have HM := HM_n; clear HM_n
    clear hb
    have HZ0 := Aside0.mk HB.out.size
    go_at_call 16
    have HKs := Aside0.mk (show Ks _ (some ⟨gk, 0, none⟩) [kK] from ks_one CK.out (by decide))
    refine (apply_get2 g b _ (Fk kK st 0 7) ({ rqOf 2 eA 0 with fl := 0 }) (some ⟨gk, 0, none⟩) 1 [kK] _ _ _ HM.out HKs.out (by decide) rfl).mono ?_
    rintro e_53 w_6 ⟨v, rfl, hown, hb⟩
    rw [Fk.founds] at hown
    obtain ⟨Av, cv, rfl⟩ := own_slice hown
    have RV := Aside0.mk hown
    clear hown HKs CK
    simp only [ansV]
    have HT_n := Aside0.mk (HT.out.below hb)
    have HB_n := Aside0.mk (HB.out.trans (hb.mono HB.out.size))
    have HM_n := Aside0.mk (HM.out.below hb)
    clear HT; have HT := HT_n; clear HT_n
    clear HB; have HB := HB_n; clear HB_n
    clear HM; have HM := HM_n; clear HM_n
    clear hb
    have h5 := RV.out
    obtain ⟨go, rfl⟩ : ∃ go, Av = some ⟨go, 0, none⟩ := by
      rcases h5.2 with ⟨e, hz⟩ | ⟨go, cap, cur, e, _⟩
      · simp at hz
      · injection e with e1
        exact ⟨go, e1⟩
    clear h5
    obtain ⟨N, hN⟩ : ∃ N, N = min n1 10 := ⟨_, rfl⟩
    have HN := Aside0.mk hN
    clear hN
    have c1 : (w_6.alloc (.cells #[.int .i64 1, .slice (some ⟨go, 0, none⟩) 1 cv, .bool true, .int .u64 0, .string ⟨#[]⟩, .int .i64 0, .int .i64 0, .int .i64 0, .int .i64 0] 32)).cell? ⟨w_6.heap.size, 1, none⟩ = some (.slice (some ⟨go, 0, none⟩) 1 cv) := blk_cell (blk_new w_6 (.cells #[.int .i64 1, .slice (some ⟨go, 0, none⟩) 1 cv, .bool true, .int .u64 0, .string ⟨#[]⟩, .int .i64 0, .int .i64 0, .int .i64 0, .int .i64 0] 32)) 1
    have hb2 : Below w_6.heap.size w_6 (w_6.alloc (.cells #[.int .i64 1, .slice (some ⟨go, 0, none⟩) 1 cv, .bool true, .int .u64 0, .string ⟨#[]⟩, .int .i64 0, .int .i64 0, .int .i64 0, .int .i64 0] 32)) := below_alloc (Below.refl _ _) _
    have HT_n := Aside0.mk (HT.out.below hb2)
    have HB_n := Aside0.mk (HB.out.trans (hb2.mono HB.out.size))
    have HM_n := Aside0.mk (HM.out.below hb2)
    have RV_n := Aside0.mk (pw_own_below RV.out hb2)
    clear HT; have HT := HT_n; clear HT_n
    clear HB; have HB := HB_n; clear HB_n
    clear HM; have HM := HM_n; clear HM_n
    clear RV; have RV := RV_n; clear RV_n
    clear hb2
    have T8 := Aside0.mk (blk_new w_6 (.cells #[.int .i64 1, .slice (some ⟨go, 0, none⟩) 1 cv, .bool true, .int .u64 0, .string ⟨#[]⟩, .int .i64 0, .int .i64 0, .int .i64 0, .int .i64 0] 32))
    go_wp2_with fail
    go_loopg [9] N (fun R s9 wr => ∃ (i : Nat) (d : ByteArray) (c : Int), i + R = N ∧ s9 = .int .i64 (i : Int) ∧ (i = 0 → c = 7) ∧ (0 < i → c ≠ 7) ∧ Md wr g b (1 + i) (Fk kK d 0 c) ∧ Pow wr ∧ Below w.heap.size w wr ∧ wr.heap[w_6.heap.size]? = some (.cells #[.int .i64 1, .slice (some ⟨go, 0, none⟩) 1 cv, .bool true, .int .u64 0, .string ⟨#[]⟩, .int .i64 0, .int .i64 0, .int .i64 0, .int .i64 0] 32 (0, 0)) ∧ wr.ownsRow w.heap.size 35 4 (.slice (some ⟨go, 0, none⟩) 1 cv) 1 (fcl ⟨kK, 0, 0, st, 7⟩))
    case atStart => exact ⟨0, st, 7, by omega, rfl, fun _ => rfl, fun h => absurd h (by omega), HM.out, HT.out, HB.out, T8.out, own_mono RV.out HZ0.out⟩
    case round =>
      clear HM HT HB T8 RV c1
      obtain ⟨i, d, c, hi, rfl, hc0, hc1, hM, hT, hB, h8, hR⟩ := hrel
      have HM := Aside0.mk hM
      have HT := Aside0.mk hT
      have HB := Aside0.mk hB
      have T8 := Aside0.mk h8
      have RV := Aside0.mk hR
      have HC := Aside0.mk (And.intro hc0 hc1)
      clear hM hT hB h8 hR hc0 hc1
      have HI := Aside0.mk hi
      by_cases hlt : i < N
      · have HL := Aside0.mk (show i < n1 ∧ i < 10 by have := HN.out; omega)
        have r1 : decide ((i : Int) < (n1 : Int)) = true := decide_eq_true (by have := HL.out; omega)
        have r2 : decide ((i : Int) < 10) = true := decide_eq_true (by have := HL.out; omega)
        have r1' : (i : Int) < (n1 : Int) := by have := HL.out; omega
        have r2' : (i : Int) < 10 := by have := HL.out; omega
        obtain ⟨p, hp⟩ : ∃ d, ps[i]? = some d := ⟨_, List.getElem?_eq_getElem (by have := HL.out; have := HU.out.1; omega)⟩
        obtain ⟨b1, o1, rfl, ce⟩ := Arg.far HU.out HB.out i p (.string p) (fun _ => rfl) hp rfl
        clear hp hi hlt
        by_cases hp : 100 < p.size
        · have r4 : decide ((100 : Int) < (p.size : Int)) = true := decide_eq_true (by omega)
          have r4' : (100 : Int) < (p.size : Int) := by omega
          go_wp2_with fail
          go_at_call 3
          refine (runs_calls _ HT.out).mono ?_
          rintro e_1 w_1 ⟨rfl, hb⟩
          have HBm := Aside0.mk (HB.out.trans (hb.mono HB.out.size))
          clear hb HB
          go_wp2
          go_ret
          exact ⟨rfl, HBm.out⟩
        · have r4 : decide ((100 : Int) < (p.size : Int)) = false := decide_eq_false (by omega)
          have r4' : ¬ (100 : Int) < (p.size : Int) := by omega
          have HP := Aside0.mk (show p.size ≤ 100 by omega)
          clear hp
          by_cases hi0 : i = 0
          · have HI0 := Aside0.mk hi0
            have i0 : ((i : Int) == 0) = true := by simp; omega
            clear hi0
            obtain rfl : c = 7 := HC.out.1 HI0.out
            go_wp2_with fail
            go_at_call 15
            refine (of_calls 8 kK p 0 _).mono ?_
            rintro e_201 w_5 ⟨gk, rfl, hck, hge, hb⟩
            have CK := Aside0.mk (blk_cell hck 0)
            clear hck hge
            have HT_n := Aside0.mk (HT.out.below hb)
            have HB_n := Aside0.mk (HB.out.trans (hb.mono HB.out.size))
            have HM_n := Aside0.mk (HM.out.below hb)
            have RV_n := Aside0.mk (pw_own_below RV.out hb)
            have T8_n := Aside0.mk ((hb.block _ (blk_lt T8.out)).trans T8.out)
            clear HT; have HT := HT_n; clear HT_n
            clear HB; have HB := HB_n; clear HB_n
            clear HM; have HM := HM_n; clear HM_n
            clear RV; have RV := RV_n; clear RV_n
            clear T8; have T8 := T8_n; clear T8_n
            clear hb
            simp only [rqOf, Rq.c]
            have c8 : ∀ o, (w_5.alloc o).cell? ⟨w_6.heap.size, 1, none⟩ = some (.slice (some ⟨go, 0, none⟩) 1 cv) := fun o => blk_cell (blk_alloc T8.out o) 1
            have c3 : ∀ o, (w_5.alloc o).cell? ⟨go, 3, none⟩ = some (.int .i64 7) := fun o => (own_alloc RV.out o).cellAt 3 (by simp)
            have hfd := fld 2
            go_wp2_with fail
            refine calls_at (fun W => Below w_5.heap.size w_5 W) (below_alloc (Below.refl _ _) _) (fun W hW => ?_)
            have hb := hW
            clear hW
            clear c8 c3
            have CKn := Aside0.mk (pw_cell_below hb CK.out)
            clear CK; have CK := CKn; clear CKn
            have HT_n := Aside0.mk (HT.out.below hb)
            have HB_n := Aside0.mk (HB.out.trans (hb.mono HB.out.size))
            have HM_n := Aside0.mk (HM.out.below hb)
            have RV_n := Aside0.mk (pw_own_below RV.out hb)
            have T8_n := Aside0.mk ((hb.block _ (blk_lt T8.out)).trans T8.out)
            clear HT; have HT := HT_n; clear HT_n
            clear HB; have HB := HB_n; clear HB_n
            clear HM; have HM := HM_n; clear HM_n
            clear RV; have RV := RV_n; clear RV_n
            clear T8; have T8 := T8_n; clear T8_n
            clear hb
            go_at_call 16
            refine (apply_one g b _ (Fk kK d 0 7) ({ rqOf 8 p 0 with cas := 7 }) kK ⟨gk, 0, none⟩ 1 _ _ _ HM.out (by have := HL.out; unfold maxLen; omega) (by decide) CK.out (show (8 : Int) ≠ 1 ∧ (8 : Int) ≠ 2 ∧ (8 : Int) ≠ 13 by decide) HT.out (show p.size ≤ 140737488355328 by have := HP.out; omega) (show (0 : Int) ≤ 0 by decide)).mono ?_
            rintro e_202 w_7 ⟨rfl, hmd, hm⟩
            rw [to_cas_yes kK d p 7] at hmd ⊢
            simp only [An.c, ans, say]
            clear CK
            have HT_n := Aside0.mk (HT.out.mod hm (fun e => by have := HG.out; omega))
            have HB_n := Aside0.mk (hm.after HB.out HB.out.size (fun q hq => by rw [hq]; exact HG.out.1))
            have RV_n := Aside0.mk (own_map RV.out hm HM.out.mp)
            have T8_n := Aside0.mk (blk_map T8.out hm HM.out.mp)
            clear HT; have HT := HT_n; clear HT_n
            clear HB; have HB := HB_n; clear HB_n
            clear RV; have RV := RV_n; clear RV_n
            clear T8; have T8 := T8_n; clear T8_n
            clear HM; have HM := Aside0.mk hmd; clear hmd hm
            go_wp2_with fail
            go_roundg (N - (i + 1))
            case measure => have := HI.out; have := HL.out; have := HN.out; omega
            case rel =>
              exact ⟨i + 1, p, _, by have := HI.out; have := HL.out; have := HN.out; omega, by go_num, fun h => absurd h (by omega), fun _ => by have := HI0.out; omega, HM.out, HT.out, HB.out, T8.out, RV.out⟩
          · have HI0 := Aside0.mk hi0
            have i0 : ((i : Int) == 0) = false := by simp; omega
            clear hi0
            have HNE := Aside0.mk (HC.out.2 (by have := HI0.out; omega))
            go_wp2_with fail
            go_at_call 15
            refine (of_calls 8 kK p 0 _).mono ?_
            rintro e_201 w_5 ⟨gk, rfl, hck, hge, hb⟩
            have CK := Aside0.mk (blk_cell hck 0)
            clear hck hge
            have HT_n := Aside0.mk (HT.out.below hb)
            have HB_n := Aside0.mk (HB.out.trans (hb.mono HB.out.size))
            have HM_n := Aside0.mk (HM.out.below hb)
            have RV_n := Aside0.mk (pw_own_below RV.out hb)
            have T8_n := Aside0.mk ((hb.block _ (blk_lt T8.out)).trans T8.out)
            clear HT; have HT := HT_n; clear HT_n
            clear HB; have HB := HB_n; clear HB_n
            clear HM; have HM := HM_n; clear HM_n
            clear RV; have RV := RV_n; clear RV_n
            clear T8; have T8 := T8_n; clear T8_n
            clear hb
            simp only [rqOf, Rq.c]
            have c8 : ∀ o, (w_5.alloc o).cell? ⟨w_6.heap.size, 1, none⟩ = some (.slice (some ⟨go, 0, none⟩) 1 cv) := fun o => blk_cell (blk_alloc T8.out o) 1
            have c3 : ∀ o, (w_5.alloc o).cell? ⟨go, 3, none⟩ = some (.int .i64 7) := fun o => (own_alloc RV.out o).cellAt 3 (by simp)
            have hfd := fld 4
            go_wp2_with fail
            refine calls_at (fun W => Below w_5.heap.size w_5 W) (below_alloc (Below.refl _ _) _) (fun W hW => ?_)
            have hb := hW
            clear hW
            clear c8 c3
            have CKn := Aside0.mk (pw_cell_below hb CK.out)
            clear CK; have CK := CKn; clear CKn
            have HT_n := Aside0.mk (HT.out.below hb)
            have HB_n := Aside0.mk (HB.out.trans (hb.mono HB.out.size))
            have HM_n := Aside0.mk (HM.out.below hb)
            have RV_n := Aside0.mk (pw_own_below RV.out hb)
            have T8_n := Aside0.mk ((hb.block _ (blk_lt T8.out)).trans T8.out)
            clear HT; have HT := HT_n; clear HT_n
            clear HB; have HB := HB_n; clear HB_n
            clear HM; have HM := HM_n; clear HM_n
            clear RV; have RV := RV_n; clear RV_n
            clear T8; have T8 := T8_n; clear T8_n
            clear hb
            go_at_call 16
            refine (apply_one g b _ (Fk kK d 0 c) ({ rqOf 8 p 0 with cas := 7 }) kK ⟨gk, 0, none⟩ 1 _ _ _ HM.out (by have := HL.out; unfold maxLen; omega) (by decide) CK.out (show (8 : Int) ≠ 1 ∧ (8 : Int) ≠ 2 ∧ (8 : Int) ≠ 13 by decide) HT.out (show p.size ≤ 140737488355328 by have := HP.out; omega) (show (0 : Int) ≤ 0 by decide)).mono ?_
            rintro e_202 w_7 ⟨rfl, hmd, hm⟩
            rw [to_cas_no kK d p c 7 _ _ HNE.out] at hmd ⊢
            simp only [An.c, ans, say]
            clear CK
            have HT_n := Aside0.mk (HT.out.mod hm (fun e => by have := HG.out; omega))
            have HB_n := Aside0.mk (hm.after HB.out HB.out.size (fun q hq => by rw [hq]; exact HG.out.1))
            have RV_n := Aside0.mk (own_map RV.out hm HM.out.mp)
            have T8_n := Aside0.mk (blk_map T8.out hm HM.out.mp)
            clear HT; have HT := HT_n; clear HT_n
            clear HB; have HB := HB_n; clear HB_n
            clear RV; have RV := RV_n; clear RV_n
            clear T8; have T8 := T8_n; clear T8_n
            clear HM; have HM := Aside0.mk hmd; clear hmd hm
            go_wp2_with fail
            go_roundg (N - (i + 1))
            case measure => have := HI.out; have := HL.out; have := HN.out; omega
            case rel =>
              exact ⟨i + 1, d, _, by have := HI.out; have := HL.out; have := HN.out; omega, by go_num, fun h => absurd h (by omega), fun _ => HNE.out, HM.out, HT.out, HB.out, T8.out, RV.out⟩
      · by_cases hl2 : i < n1
        · have r1 : decide ((i : Int) < (n1 : Int)) = true := decide_eq_true (by omega)
          have r2 : decide ((i : Int) < 10) = false := decide_eq_false (by have := HN.out; omega)
          have r1' : (i : Int) < (n1 : Int) := by omega
          have r2' : ¬ (i : Int) < 10 := by have := HN.out; omega
          clear hi hlt hl2
          have c8 := blk_cell T8.out 1
          have c3 := (show wr.cell? ⟨go, 3, none⟩ = some (.int .i64 7) from RV.out.cellAt 3 (by simp))
          go_wp2_with fail
          go_at_call 3
          refine (runs_calls _ HT.out).mono ?_
          rintro e_1 w_1 ⟨rfl, hb⟩
          have HBm := Aside0.mk (HB.out.trans (hb.mono HB.out.size))
          clear hb HB
          go_wp2
          go_ret
          exact ⟨rfl, HBm.out⟩
        · have r1 : decide ((i : Int) < (n1 : Int)) = false := decide_eq_false (by omega)
          have r1' : ¬ (i : Int) < (n1 : Int) := by omega
          clear hi hlt hl2
          have c8 := blk_cell T8.out 1
          have c3 := (show wr.cell? ⟨go, 3, none⟩ = some (.int .i64 7) from RV.out.cellAt 3 (by simp))
          go_wp2_with fail
          go_at_call 3
          refine (runs_calls _ HT.out).mono ?_
          rintro e_1 w_1 ⟨rfl, hb⟩
          have HBm := Aside0.mk (HB.out.trans (hb.mono HB.out.size))
          clear hb HB
          go_wp2
          go_ret
          exact ⟨rfl, HBm.out⟩
  · go_wp2_with fail
    go_at_call 15
    refine (of_calls 12 kK eA 0 _).mono ?_
    rintro e_53 w_3 ⟨gk, rfl, hck, hge, hb⟩
    have CK := Aside0.mk (blk_cell hck 0)
    clear hck hge
    have HT_n := Aside0.mk (HT.out.below hb)
    have HB_n := Aside0.mk (HB.out.trans (hb.mono HB.out.size))
    have HM_n := Aside0.mk (HM.out.below hb)
    clear HT; have HT := HT_n; clear HT_n
    clear HB; have HB := HB_n; clear HB_n
    clear HM; have HM := HM_n; clear HM_n
    clear hb
    simp only [rqOf, Rq.c]
    go_wp2_with fail
    go_at_call 16
    refine (apply_one g b _ (Fk kK st 0 7) (rqOf 12 eA 0) kK ⟨gk, 0, none⟩ 1 _ _ _ HM.out (by decide) (by decide) CK.out (by decide) HT.out (by decide) (by decide)).mono ?_
    rintro e_54 w_4 ⟨rfl, hmd, hm⟩
    rw [to_touch kK st 0 7] at hmd ⊢
    simp only [An.c, ans, say]
    clear CK
    have HT_n := Aside0.mk (HT.out.mod hm (fun e => by have := HG.out; omega))
    have HB_n := Aside0.mk (hm.after HB.out HB.out.size (fun q hq => by rw [hq]; exact HG.out.1))
    clear HT; have HT := HT_n; clear HT_n
    clear HB; have HB := HB_n; clear HB_n
    clear HM; have HM := Aside0.mk hmd; clear hmd hm
    go_wp2_with fail
    refine calls_at (fun W => Below w_4.heap.size w_4 W ∧ W.heap[w_4.heap.size]? = some (.cells #[.string kK] 9 (0, 0))) (⟨below_alloc (Below.refl _ _) _, blk_new w_4 (.cells #[.string kK] 9)⟩) (fun W hW => ?_)
    rcases hW with ⟨hb, h2⟩
    have CK := Aside0.mk (blk_cell h2 0)
    clear h2
    obtain ⟨gk, hgk⟩ : ∃ gk, gk = w_4.heap.size := ⟨_, rfl⟩
    rw [← hgk] at CK ⊢
    clear hgk
    have HT_n := Aside0.mk (HT.out.below hb)
    have HB_n := Aside0.mk (HB.out.trans (hb.mono HB.out.size))
    have HM_n := Aside0.mk (HM.out.below hb)
    clear HT; have HT := HT_n; clear HT_n
    clear HB; have HB := HB_n; clear HB_n
    clear HM; have HM := HM_n; clear HM_n
    clear hb
    have HZ0 := Aside0.mk HB.out.size
    go_at_call 16
    have HKs := Aside0.mk (show Ks _ (some ⟨gk, 0, none⟩) [kK] from ks_one CK.out (by decide))
    refine (apply_get2 g b _ (Fk kK st 0 7) ({ rqOf 2 eA 0 with fl := 0 }) (some ⟨gk, 0, none⟩) 1 [kK] _ _ _ HM.out HKs.out (by decide) rfl).mono ?_
    rintro e_55 w_6 ⟨v, rfl, hown, hb⟩
    rw [Fk.founds] at hown
    obtain ⟨Av, cv, rfl⟩ := own_slice hown
    have RV := Aside0.mk hown
    clear hown HKs CK
    simp only [ansV]
    have HT_n := Aside0.mk (HT.out.below hb)
    have HB_n := Aside0.mk (HB.out.trans (hb.mono HB.out.size))
    have HM_n := Aside0.mk (HM.out.below hb)
    clear HT; have HT := HT_n; clear HT_n
    clear HB; have HB := HB_n; clear HB_n
    clear HM; have HM := HM_n; clear HM_n
    clear hb
    have h5 := RV.out
    obtain ⟨go, rfl⟩ : ∃ go, Av = some ⟨go, 0, none⟩ := by
      rcases h5.2 with ⟨e, hz⟩ | ⟨go, cap, cur, e, _⟩
      · simp at hz
      · injection e with e1
        exact ⟨go, e1⟩
    clear h5
    obtain ⟨N, hN⟩ : ∃ N, N = min n1 10 := ⟨_, rfl⟩
    have HN := Aside0.mk hN
    clear hN
    have c1 : (w_6.alloc (.cells #[.int .i64 1, .slice (some ⟨go, 0, none⟩) 1 cv, .bool true, .int .u64 0, .string ⟨#[]⟩, .int .i64 0, .int .i64 0, .int .i64 0, .int .i64 0] 32)).cell? ⟨w_6.heap.size, 1, none⟩ = some (.slice (some ⟨go, 0, none⟩) 1 cv) := blk_cell (blk_new w_6 (.cells #[.int .i64 1, .slice (some ⟨go, 0, none⟩) 1 cv, .bool true, .int .u64 0, .string ⟨#[]⟩, .int .i64 0, .int .i64 0, .int .i64 0, .int .i64 0] 32)) 1
    have hb2 : Below w_6.heap.size w_6 (w_6.alloc (.cells #[.int .i64 1, .slice (some ⟨go, 0, none⟩) 1 cv, .bool true, .int .u64 0, .string ⟨#[]⟩, .int .i64 0, .int .i64 0, .int .i64 0, .int .i64 0] 32)) := below_alloc (Below.refl _ _) _
    have HT_n := Aside0.mk (HT.out.below hb2)
    have HB_n := Aside0.mk (HB.out.trans (hb2.mono HB.out.size))
    have HM_n := Aside0.mk (HM.out.below hb2)
    have RV_n := Aside0.mk (pw_own_below RV.out hb2)
    clear HT; have HT := HT_n; clear HT_n
    clear HB; have HB := HB_n; clear HB_n
    clear HM; have HM := HM_n; clear HM_n
    clear RV; have RV := RV_n; clear RV_n
    clear hb2
    have T8 := Aside0.mk (blk_new w_6 (.cells #[.int .i64 1, .slice (some ⟨go, 0, none⟩) 1 cv, .bool true, .int .u64 0, .string ⟨#[]⟩, .int .i64 0, .int .i64 0, .int .i64 0, .int .i64 0] 32))
    go_wp2_with fail
    go_loopg [9] N (fun R s9 wr => ∃ (i : Nat) (d : ByteArray) (c : Int), i + R = N ∧ s9 = .int .i64 (i : Int) ∧ (i = 0 → c = 7) ∧ (0 < i → c ≠ 7) ∧ Md wr g b (2 + i) (Fk kK d 0 c) ∧ Pow wr ∧ Below w.heap.size w wr ∧ wr.heap[w_6.heap.size]? = some (.cells #[.int .i64 1, .slice (some ⟨go, 0, none⟩) 1 cv, .bool true, .int .u64 0, .string ⟨#[]⟩, .int .i64 0, .int .i64 0, .int .i64 0, .int .i64 0] 32 (0, 0)) ∧ wr.ownsRow w.heap.size 35 4 (.slice (some ⟨go, 0, none⟩) 1 cv) 1 (fcl ⟨kK, 0, 0, st, 7⟩))
    case atStart => exact ⟨0, st, 7, by omega, rfl, fun _ => rfl, fun h => absurd h (by omega), HM.out, HT.out, HB.out, T8.out, own_mono RV.out HZ0.out⟩
    case round =>
      clear HM HT HB T8 RV c1
      obtain ⟨i, d, c, hi, rfl, hc0, hc1, hM, hT, hB, h8, hR⟩ := hrel
      have HM := Aside0.mk hM
      have HT := Aside0.mk hT
      have HB := Aside0.mk hB
      have T8 := Aside0.mk h8
      have RV := Aside0.mk hR
      have HC := Aside0.mk (And.intro hc0 hc1)
      clear hM hT hB h8 hR hc0 hc1
      have HI := Aside0.mk hi
      by_cases hlt : i < N
      · have HL := Aside0.mk (show i < n1 ∧ i < 10 by have := HN.out; omega)
        have r1 : decide ((i : Int) < (n1 : Int)) = true := decide_eq_true (by have := HL.out; omega)
        have r2 : decide ((i : Int) < 10) = true := decide_eq_true (by have := HL.out; omega)
        have r1' : (i : Int) < (n1 : Int) := by have := HL.out; omega
        have r2' : (i : Int) < 10 := by have := HL.out; omega
        obtain ⟨p, hp⟩ : ∃ d, ps[i]? = some d := ⟨_, List.getElem?_eq_getElem (by have := HL.out; have := HU.out.1; omega)⟩
        obtain ⟨b1, o1, rfl, ce⟩ := Arg.far HU.out HB.out i p (.string p) (fun _ => rfl) hp rfl
        clear hp hi hlt
        by_cases hp : 100 < p.size
        · have r4 : decide ((100 : Int) < (p.size : Int)) = true := decide_eq_true (by omega)
          have r4' : (100 : Int) < (p.size : Int) := by omega
          go_wp2_with fail
          go_at_call 3
          refine (runs_calls _ HT.out).mono ?_
          rintro e_1 w_1 ⟨rfl, hb⟩
          have HBm := Aside0.mk (HB.out.trans (hb.mono HB.out.size))
          clear hb HB
          go_wp2
          go_ret
          exact ⟨rfl, HBm.out⟩
        · have r4 : decide ((100 : Int) < (p.size : Int)) = false := decide_eq_false (by omega)
          have r4' : ¬ (100 : Int) < (p.size : Int) := by omega
          have HP := Aside0.mk (show p.size ≤ 100 by omega)
          clear hp
          by_cases hi0 : i = 0
          · have HI0 := Aside0.mk hi0
            have i0 : ((i : Int) == 0) = true := by simp; omega
            clear hi0
            obtain rfl : c = 7 := HC.out.1 HI0.out
            go_wp2_with fail
            go_at_call 15
            refine (of_calls 8 kK p 0 _).mono ?_
            rintro e_201 w_5 ⟨gk, rfl, hck, hge, hb⟩
            have CK := Aside0.mk (blk_cell hck 0)
            clear hck hge
            have HT_n := Aside0.mk (HT.out.below hb)
            have HB_n := Aside0.mk (HB.out.trans (hb.mono HB.out.size))
            have HM_n := Aside0.mk (HM.out.below hb)
            have RV_n := Aside0.mk (pw_own_below RV.out hb)
            have T8_n := Aside0.mk ((hb.block _ (blk_lt T8.out)).trans T8.out)
            clear HT; have HT := HT_n; clear HT_n
            clear HB; have HB := HB_n; clear HB_n
            clear HM; have HM := HM_n; clear HM_n
            clear RV; have RV := RV_n; clear RV_n
            clear T8; have T8 := T8_n; clear T8_n
            clear hb
            simp only [rqOf, Rq.c]
            have c8 : ∀ o, (w_5.alloc o).cell? ⟨w_6.heap.size, 1, none⟩ = some (.slice (some ⟨go, 0, none⟩) 1 cv) := fun o => blk_cell (blk_alloc T8.out o) 1
            have c3 : ∀ o, (w_5.alloc o).cell? ⟨go, 3, none⟩ = some (.int .i64 7) := fun o => (own_alloc RV.out o).cellAt 3 (by simp)
            have hfd := fld 2
            go_wp2_with fail
            refine calls_at (fun W => Below w_5.heap.size w_5 W) (below_alloc (Below.refl _ _) _) (fun W hW => ?_)
            have hb := hW
            clear hW
            clear c8 c3
            have CKn := Aside0.mk (pw_cell_below hb CK.out)
            clear CK; have CK := CKn; clear CKn
            have HT_n := Aside0.mk (HT.out.below hb)
            have HB_n := Aside0.mk (HB.out.trans (hb.mono HB.out.size))
            have HM_n := Aside0.mk (HM.out.below hb)
            have RV_n := Aside0.mk (pw_own_below RV.out hb)
            have T8_n := Aside0.mk ((hb.block _ (blk_lt T8.out)).trans T8.out)
            clear HT; have HT := HT_n; clear HT_n
            clear HB; have HB := HB_n; clear HB_n
            clear HM; have HM := HM_n; clear HM_n
            clear RV; have RV := RV_n; clear RV_n
            clear T8; have T8 := T8_n; clear T8_n
            clear hb
            go_at_call 16
            refine (apply_one g b _ (Fk kK d 0 7) ({ rqOf 8 p 0 with cas := 7 }) kK ⟨gk, 0, none⟩ 1 _ _ _ HM.out (by have := HL.out; unfold maxLen; omega) (by decide) CK.out (show (8 : Int) ≠ 1 ∧ (8 : Int) ≠ 2 ∧ (8 : Int) ≠ 13 by decide) HT.out (show p.size ≤ 140737488355328 by have := HP.out; omega) (show (0 : Int) ≤ 0 by decide)).mono ?_
            rintro e_202 w_7 ⟨rfl, hmd, hm⟩
            rw [to_cas_yes kK d p 7] at hmd ⊢
            simp only [An.c, ans, say]
            clear CK
            have HT_n := Aside0.mk (HT.out.mod hm (fun e => by have := HG.out; omega))
            have HB_n := Aside0.mk (hm.after HB.out HB.out.size (fun q hq => by rw [hq]; exact HG.out.1))
            have RV_n := Aside0.mk (own_map RV.out hm HM.out.mp)
            have T8_n := Aside0.mk (blk_map T8.out hm HM.out.mp)
            clear HT; have HT := HT_n; clear HT_n
            clear HB; have HB := HB_n; clear HB_n
            clear RV; have RV := RV_n; clear RV_n
            clear T8; have T8 := T8_n; clear T8_n
            clear HM; have HM := Aside0.mk hmd; clear hmd hm
            go_wp2_with fail
            go_roundg (N - (i + 1))
            case measure => have := HI.out; have := HL.out; have := HN.out; omega
            case rel =>
              exact ⟨i + 1, p, _, by have := HI.out; have := HL.out; have := HN.out; omega, by go_num, fun h => absurd h (by omega), fun _ => by have := HI0.out; omega, HM.out, HT.out, HB.out, T8.out, RV.out⟩
          · have HI0 := Aside0.mk hi0
            have i0 : ((i : Int) == 0) = false := by simp; omega
            clear hi0
            have HNE := Aside0.mk (HC.out.2 (by have := HI0.out; omega))
            go_wp2_with fail
            go_at_call 15
            refine (of_calls 8 kK p 0 _).mono ?_
            rintro e_201 w_5 ⟨gk, rfl, hck, hge, hb⟩
            have CK := Aside0.mk (blk_cell hck 0)
            clear hck hge
            have HT_n := Aside0.mk (HT.out.below hb)
            have HB_n := Aside0.mk (HB.out.trans (hb.mono HB.out.size))
            have HM_n := Aside0.mk (HM.out.below hb)
            have RV_n := Aside0.mk (pw_own_below RV.out hb)
            have T8_n := Aside0.mk ((hb.block _ (blk_lt T8.out)).trans T8.out)
            clear HT; have HT := HT_n; clear HT_n
            clear HB; have HB := HB_n; clear HB_n
            clear HM; have HM := HM_n; clear HM_n
            clear RV; have RV := RV_n; clear RV_n
            clear T8; have T8 := T8_n; clear T8_n
            clear hb
            simp only [rqOf, Rq.c]
            have c8 : ∀ o, (w_5.alloc o).cell? ⟨w_6.heap.size, 1, none⟩ = some (.slice (some ⟨go, 0, none⟩) 1 cv) := fun o => blk_cell (blk_alloc T8.out o) 1
            have c3 : ∀ o, (w_5.alloc o).cell? ⟨go, 3, none⟩ = some (.int .i64 7) := fun o => (own_alloc RV.out o).cellAt 3 (by simp)
            have hfd := fld 4
            go_wp2_with fail
            refine calls_at (fun W => Below w_5.heap.size w_5 W) (below_alloc (Below.refl _ _) _) (fun W hW => ?_)
            have hb := hW
            clear hW
            clear c8 c3
            have CKn := Aside0.mk (pw_cell_below hb CK.out)
            clear CK; have CK := CKn; clear CKn
            have HT_n := Aside0.mk (HT.out.below hb)
            have HB_n := Aside0.mk (HB.out.trans (hb.mono HB.out.size))
            have HM_n := Aside0.mk (HM.out.below hb)
            have RV_n := Aside0.mk (pw_own_below RV.out hb)
            have T8_n := Aside0.mk ((hb.block _ (blk_lt T8.out)).trans T8.out)
            clear HT; have HT := HT_n; clear HT_n
            clear HB; have HB := HB_n; clear HB_n
            clear HM; have HM := HM_n; clear HM_n
            clear RV; have RV := RV_n; clear RV_n
            clear T8; have T8 := T8_n; clear T8_n
            clear hb
            go_at_call 16
            refine (apply_one g b _ (Fk kK d 0 c) ({ rqOf 8 p 0 with cas := 7 }) kK ⟨gk, 0, none⟩ 1 _ _ _ HM.out (by have := HL.out; unfold maxLen; omega) (by decide) CK.out (show (8 : Int) ≠ 1 ∧ (8 : Int) ≠ 2 ∧ (8 : Int) ≠ 13 by decide) HT.out (show p.size ≤ 140737488355328 by have := HP.out; omega) (show (0 : Int) ≤ 0 by decide)).mono ?_
            rintro e_202 w_7 ⟨rfl, hmd, hm⟩
            rw [to_cas_no kK d p c 7 _ _ HNE.out] at hmd ⊢
            simp only [An.c, ans, say]
            clear CK
            have HT_n := Aside0.mk (HT.out.mod hm (fun e => by have := HG.out; omega))
            have HB_n := Aside0.mk (hm.after HB.out HB.out.size (fun q hq => by rw [hq]; exact HG.out.1))
            have RV_n := Aside0.mk (own_map RV.out hm HM.out.mp)
            have T8_n := Aside0.mk (blk_map T8.out hm HM.out.mp)
            clear HT; have HT := HT_n; clear HT_n
            clear HB; have HB := HB_n; clear HB_n
            clear RV; have RV := RV_n; clear RV_n
            clear T8; have T8 := T8_n; clear T8_n
            clear HM; have HM := Aside0.mk hmd; clear hmd hm
            go_wp2_with fail
            go_roundg (N - (i + 1))
            case measure => have := HI.out; have := HL.out; have := HN.out; omega
            case rel =>
              exact ⟨i + 1, d, _, by have := HI.out; have := HL.out; have := HN.out; omega, by go_num, fun h => absurd h (by omega), fun _ => HNE.out, HM.out, HT.out, HB.out, T8.out, RV.out⟩
      · by_cases hl2 : i < n1
        · have r1 : decide ((i : Int) < (n1 : Int)) = true := decide_eq_true (by omega)
          have r2 : decide ((i : Int) < 10) = false := decide_eq_false (by have := HN.out; omega)
          have r1' : (i : Int) < (n1 : Int) := by omega
          have r2' : ¬ (i : Int) < 10 := by have := HN.out; omega
          clear hi hlt hl2
          have c8 := blk_cell T8.out 1
          have c3 := (show wr.cell? ⟨go, 3, none⟩ = some (.int .i64 7) from RV.out.cellAt 3 (by simp))
          go_wp2_with fail
          go_at_call 3
          refine (runs_calls _ HT.out).mono ?_
          rintro e_1 w_1 ⟨rfl, hb⟩
          have HBm := Aside0.mk (HB.out.trans (hb.mono HB.out.size))
          clear hb HB
          go_wp2
          go_ret
          exact ⟨rfl, HBm.out⟩
        · have r1 : decide ((i : Int) < (n1 : Int)) = false := decide_eq_false (by omega)
          have r1' : ¬ (i : Int) < (n1 : Int) := by omega
          clear hi hlt hl2
          have c8 := blk_cell T8.out 1
          have c3 := (show wr.cell? ⟨go, 3, none⟩ = some (.int .i64 7) from RV.out.cellAt 3 (by simp))
          go_wp2_with fail
          go_at_call 3
          refine (runs_calls _ HT.out).mono ?_
          rintro e_1 w_1 ⟨rfl, hb⟩
          have HBm := Aside0.mk (HB.out.trans (hb.mono HB.out.size))
          clear hb HB
          go_wp2
          go_ret
          exact ⟨rfl, HBm.out⟩
theorem cas_card (st : ByteArray) (A1 : Option Addr) (n1 c1 : Nat) (ps : List ByteArray) (tc : Bool) (w : World) (ht : Pow w) (hu : Arg scl w A1 n1 ps) :
    Calls Tryd.prog 7 #[.string st, .slice A1 n1 c1, .bool tc] w fun e w' => e = .returned (.bool true) ∧ Below w.heap.size w w' := by
  by_cases hs : 200 < st.size
  · exact cas_long st hs _ _ w ht
  · exact cas_calls st (by omega) A1 n1 c1 ps tc w ht hu
end Go.Proofs.YtepklobkppdliaaDoor.Md
