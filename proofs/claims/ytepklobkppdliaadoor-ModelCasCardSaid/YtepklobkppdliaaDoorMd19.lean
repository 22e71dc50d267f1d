/- The model: ModelJoins answers true. -/
import Derived.Test.YtepklobkppdliaaDoorMd18
namespace Go.Proofs.YtepklobkppdliaaDoor.Md
open Go.RowKit Go.Proofs.YtepklobkppdliaaDoorW.PrintWords Go.Proofs.YtepklobkppdliaaDoorW.PrintLast Go.Proofs.YtepklobkppdliaaDoorW.PrintMore Go.Proofs.YtepklobkppdliaaDoor.Lib Go.Proofs.YtepklobkppdliaaDoor.Open Go.Proofs.YtepklobkppdliaaDoor.Open
theorem fld (k : Int) : ∀ W : World, (Instr.field 32 (.agg #[.int .i64 k, .slice none 0 0, .bool false, .int .u64 0, .string ⟨#[]⟩, .int .i64 0, .int .i64 0, .int .i64 0, .int .i64 0]) 0).run Tryd.prog W = .ok (.int .i64 k) W := fun _ => by kernel_rfl
theorem to_joinb6 (k d p : ByteArray) (fl c now ver b : Int) (h : d.size + p.size ≤ 1048576) : applyTo (Fk k d fl c) { rqOf 6 p 0 with fl := 9, exp := -1, bytes := b } k now ver = (say 2, Fk k (d ++ p) fl ver) :=
  to_keep (next_join67 { rqOf 6 p 0 with fl := 9, exp := -1, bytes := b } ⟨k, fl, 0, d, c⟩ now ver (.inl rfl) h)
theorem to_joinb7 (k d p : ByteArray) (fl c now ver b : Int) (h : d.size + p.size ≤ 1048576) : applyTo (Fk k d fl c) { rqOf 7 p 0 with fl := 9, exp := -1, bytes := b } k now ver = (say 2, Fk k (p ++ d) fl ver) :=
  to_keep (next_join67 { rqOf 7 p 0 with fl := 9, exp := -1, bytes := b } ⟨k, fl, 0, d, c⟩ now ver (.inr rfl) h)
set_option maxHeartbeats 16000000 in
set_option maxRecDepth 100000 in
theorem joins_long (st : ByteArray) (hs : 200 < st.size) (v1 v2 : Value) (w : World) (ht : Pow w) :
    Calls Tryd.prog 6 #[.string st, v1, v2] w fun e w' => e = .returned (.bool true) ∧ Below w.heap.size w w' := by
  have r0 : decide ((200 : Int) < (st.size : Int)) = true := decide_eq_true (by omega)
  have HT := Aside0.mk ht
  have HB := Aside0.mk (Below.refl w.heap.size w)
  have H0 := Aside0.mk ht.lt
  clear ht
  go_enter Tryd.func6, Tryd.ntmps6
  go_wp2_with fail
  go_at_call 14
  refine (new_calls _).mono ?_
  rintro e_0 w_0 ⟨g, b, rfl, hmd, hg, hbg, hb⟩
  have HG := Aside0.mk (And.intro hbg H0.out)
  have HM := Aside0.mk hmd
  clear hmd hg hbg H0
  have HT_n := Aside0.mk (HT.out.below hb)
  have HB_n := Aside0.mk (HB.out.trans (hb.mono HB.out.size))
  clear HT; have HT := HT_n; clear HT_n
  clear HB; have HB := HB_n; clear HB_n
  clear hb
  go_wp2_with fail
  go_at_call 3
  refine (runs_calls _ HT.out).mono ?_
  rintro e_1 w_1 ⟨rfl, hb⟩
  have HB_n := Aside0.mk (HB.out.trans (hb.mono HB.out.size))
  clear HB HT HM hb
  go_wp2
  go_ret
  exact ⟨rfl, HB_n.out⟩
set_option maxHeartbeats 16000000 in
set_option maxRecDepth 100000 in
theorem joins_calls (st : ByteArray) (hs : st.size ≤ 200) (A1 : Option Addr) (n1 c1 : Nat) (ps : List ByteArray) (A2 : Option Addr) (n2 c2 : Nat) (ds : List Bool) (w : World) (ht : Pow w) (hu : Arg scl w A1 n1 ps) (hv : Arg bcl w A2 n2 ds) :
    Calls Tryd.prog 6 #[.string st, .slice A1 n1 c1, .slice A2 n2 c2] w fun e w' => e = .returned (.bool true) ∧ Below w.heap.size w w' := by
  have HU := Aside0.mk hu
  have HV := Aside0.mk hv
  have HL1 := Aside0.mk hu.2.1
  clear hu hv
  have r0 : decide ((200 : Int) < (st.size : Int)) = false := decide_eq_false (by omega)
  have HT := Aside0.mk ht
  have HB := Aside0.mk (Below.refl w.heap.size w)
  have H0 := Aside0.mk ht.lt
  clear ht
  go_enter Tryd.func6, Tryd.ntmps6
  go_wp2_with fail
  go_at_call 14
  refine (new_calls _).mono ?_
  rintro e_0 w_0 ⟨g, b, rfl, hmd, hg, hbg, hb⟩
  have HG := Aside0.mk (And.intro hbg H0.out)
  have HM := Aside0.mk hmd
  clear hmd hg hbg H0
  have HT_n := Aside0.mk (HT.out.below hb)
  have HB_n := Aside0.mk (HB.out.trans (hb.mono HB.out.size))
  clear HT; have HT := HT_n; clear HT_n
  clear HB; have HB := HB_n; clear HB_n
  clear hb
  go_wp2_with fail
  go_at_call 15
  refine (of_calls 3 kK st 0 _).mono ?_
  rintro e_1 w_1 ⟨gk, rfl, hck, hge, hb⟩
  have CK := Aside0.mk (blk_cell hck 0)
  clear hck hge
  have HT_n := Aside0.mk (HT.out.below hb)
  have HB_n := Aside0.mk (HB.out.trans (hb.mono HB.out.size))
  have HM_n := Aside0.mk (HM.out.below hb)
  clear HT; have HT := HT_n; clear HT_n
  clear HB; have HB := HB_n; clear HB_n
  clear HM; have HM := HM_n; clear HM_n
  clear hb
  simp only [rqOf, Rq.c]
  go_wp2_with fail
  refine calls_at (fun W => Below w_1.heap.size w_1 W) (below_alloc (Below.refl _ _) _) (fun W hW => ?_)
  have hb := hW
  clear hW
  have CKn := Aside0.mk (pw_cell_below hb CK.out)
  clear CK; have CK := CKn; clear CKn
  have HT_n := Aside0.mk (HT.out.below hb)
  have HB_n := Aside0.mk (HB.out.trans (hb.mono HB.out.size))
  have HM_n := Aside0.mk (HM.out.below hb)
  clear HT; have HT := HT_n; clear HT_n
  clear HB; have HB := HB_n; clear HB_n
  clear HM; have HM := HM_n; clear HM_n
  clear hb
  go_at_call 16
  refine (apply_one g b _ (f0) ({ rqOf 3 st 0 with fl := 3 }) kK ⟨gk, 0, none⟩ 1 _ _ _ HM.out (by decide) (by decide) CK.out (show (3 : Int) ≠ 1 ∧ (3 : Int) ≠ 2 ∧ (3 : Int) ≠ 13 by decide) HT.out (show st.size ≤ 140737488355328 by omega) (show (0 : Int) ≤ 0 by decide)).mono ?_
  rintro e_2 w_3 ⟨rfl, hmd, hm⟩
  rw [to_set kK st 3 5 1] at hmd ⊢
  simp only [An.c, ans, say]
  clear CK
  have HT_n := Aside0.mk (HT.out.mod hm (fun e => by have := HG.out; omega))
  have HB_n := Aside0.mk (hm.after HB.out HB.out.size (fun q hq => by rw [hq]; exact HG.out.1))
  clear HT; have HT := HT_n; clear HT_n
  clear HB; have HB := HB_n; clear HB_n
  clear HM; have HM := Aside0.mk hmd; clear hmd hm
  obtain ⟨N, hN⟩ : ∃ N, N = min n1 20 := ⟨_, rfl⟩
  have HN := Aside0.mk hN
  clear hN
  go_wp2_with fail
  go_loopg [9, 10] N (fun R s9 s10 wr => ∃ (i : Nat) (d : ByteArray) (c : Int), i + R = N ∧ s9 = .string d ∧ s10 = .int .i64 (i : Int) ∧ d.size ≤ 200 + 50 * i ∧ Md wr g b (i + 1) (Fk kK d 3 c) ∧ Pow wr ∧ Below w.heap.size w wr)
  case atStart => exact ⟨0, st, 1, by omega, rfl, rfl, by omega, HM.out, HT.out, HB.out⟩
  case round =>
    clear HM HT HB
    obtain ⟨i, d, c, hi, rfl, rfl, hm, hM, hT, hB⟩ := hrel
    have HM := Aside0.mk hM
    have HT := Aside0.mk hT
    have HB := Aside0.mk hB
    have HMM := Aside0.mk hm
    clear hM hT hB
    have HI := Aside0.mk hi
    by_cases hlt : i < N
    · have HL := Aside0.mk (show i < n1 ∧ i < 20 by have := HN.out; omega)
      have r1 : decide ((i : Int) < (n1 : Int)) = true := decide_eq_true (by have := HL.out; omega)
      have r2 : decide ((i : Int) < 20) = true := decide_eq_true (by have := HL.out; omega)
      have r1' : (i : Int) < (n1 : Int) := by have := HL.out; omega
      have r2' : (i : Int) < 20 := by have := HL.out; omega
      obtain ⟨p, hp⟩ : ∃ d, ps[i]? = some d := ⟨_, List.getElem?_eq_getElem (by have := HL.out; have := HU.out.1; omega)⟩
      obtain ⟨b1, o1, rfl, ce⟩ := Arg.far HU.out HB.out i p (.string p) (fun _ => rfl) hp rfl
      clear hp hi hlt hm
      by_cases hl2 : i < n2
      · have r3 : decide ((i : Int) < (n2 : Int)) = true := decide_eq_true (by omega)
        have r3' : (i : Int) < (n2 : Int) := by omega
        obtain ⟨dn, hdn⟩ : ∃ d, ds[i]? = some d := ⟨_, List.getElem?_eq_getElem (by have := HV.out.1; omega)⟩
        obtain ⟨b2, o2, rfl, ce2⟩ := Arg.far HV.out HB.out i dn (.bool dn) (fun _ => rfl) hdn rfl
        clear hdn hl2
        by_cases hp : 50 < p.size
        · have r4 : decide ((50 : Int) < (p.size : Int)) = true := decide_eq_true (by omega)
          have r4' : (50 : Int) < (p.size : Int) := by omega
          have hpx : (p.extract 0 50).size = 50 := by rw [ByteArray.size_extract]; omega
          cases dn
          · have HS := Aside0.mk (show d.size + (p.extract 0 50).size ≤ 1048576 ∧ d.size + (p.extract 0 50).size ≤ 200 + 50 * (i + 1) ∧ (p.extract 0 50).size ≤ 50 by have := HMM.out; have := HL.out; omega)
            have hs1 : (d.size : Int) ≤ 1200 := by have := HMM.out; have := HL.out; omega
            have hs2 : d.size ≤ 1200 := by omega
            have hs3 : ¬ 9223372036854775807 < d.size + 50 := by omega
            have hs4 : ¬ 9223372036854775807 < 50 + d.size := by omega
            go_wp2_with fail
            go_at_call 15
            refine (of_calls 6 kK (p.extract 0 50) 0 _).mono ?_
            rintro e_53 w_5 ⟨gk, rfl, hck, hge, hb⟩
            have CK := Aside0.mk (blk_cell hck 0)
            clear hck hge
            have HT_n := Aside0.mk (HT.out.below hb)
            have HB_n := Aside0.mk (HB.out.trans (hb.mono HB.out.size))
            have HM_n := Aside0.mk (HM.out.below hb)
            clear HT; have HT := HT_n; clear HT_n
            clear HB; have HB := HB_n; clear HB_n
            clear HM; have HM := HM_n; clear HM_n
            clear hb
            simp only [rqOf, Rq.c]
            go_wp2_with fail
            refine calls_at (fun W => Below w_5.heap.size w_5 W) (below_alloc (Below.refl _ _) _) (fun W hW => ?_)
            have hb := hW
            clear hW
            have CKn := Aside0.mk (pw_cell_below hb CK.out)
            clear CK; have CK := CKn; clear CKn
            have HT_n := Aside0.mk (HT.out.below hb)
            have HB_n := Aside0.mk (HB.out.trans (hb.mono HB.out.size))
            have HM_n := Aside0.mk (HM.out.below hb)
            clear HT; have HT := HT_n; clear HT_n
            clear HB; have HB := HB_n; clear HB_n
            clear HM; have HM := HM_n; clear HM_n
            clear hb
            go_at_call 16
            refine (apply_one g b _ (Fk kK d 3 c) ({ rqOf 6 (p.extract 0 50) 0 with fl := 9, exp := -1, bytes := 50 }) kK ⟨gk, 0, none⟩ 1 _ _ _ HM.out (by have := HL.out; unfold maxLen; omega) (by decide) CK.out (show (6 : Int) ≠ 1 ∧ (6 : Int) ≠ 2 ∧ (6 : Int) ≠ 13 by decide) HT.out (show (p.extract 0 50).size ≤ 140737488355328 by have := HS.out; omega) (show (0 : Int) ≤ 0 by decide)).mono ?_
            rintro e_54 w_6 ⟨rfl, hmd, hm⟩
            rw [to_joinb6 kK d (p.extract 0 50) 3 c _ _ 50 HS.out.1] at hmd ⊢
            simp only [An.c, ans, say]
            clear CK
            have HT_n := Aside0.mk (HT.out.mod hm (fun e => by have := HG.out; omega))
            have HB_n := Aside0.mk (hm.after HB.out HB.out.size (fun q hq => by rw [hq]; exact HG.out.1))
            clear HT; have HT := HT_n; clear HT_n
            clear HB; have HB := HB_n; clear HB_n
            clear HM; have HM := Aside0.mk hmd; clear hmd hm
            have hfd := fld 2
            go_wp2_with fail
            go_roundg (N - (i + 1))
            case measure => have := HI.out; have := HL.out; have := HN.out; omega
            case rel =>
              exact ⟨i + 1, d ++ (p.extract 0 50), _, by have := HI.out; have := HL.out; have := HN.out; omega, rfl, by go_num, by rw [ByteArray.size_append]; have := HS.out; omega, HM.out, HT.out, HB.out⟩
          · have HS := Aside0.mk (show d.size + (p.extract 0 50).size ≤ 1048576 ∧ d.size + (p.extract 0 50).size ≤ 200 + 50 * (i + 1) ∧ (p.extract 0 50).size ≤ 50 by have := HMM.out; have := HL.out; omega)
            have hs1 : (d.size : Int) ≤ 1200 := by have := HMM.out; have := HL.out; omega
            have hs2 : d.size ≤ 1200 := by omega
            have hs3 : ¬ 9223372036854775807 < d.size + 50 := by omega
            have hs4 : ¬ 9223372036854775807 < 50 + d.size := by omega
            go_wp2_with fail
            go_at_call 15
            refine (of_calls 7 kK (p.extract 0 50) 0 _).mono ?_
            rintro e_53 w_5 ⟨gk, rfl, hck, hge, hb⟩
            have CK := Aside0.mk (blk_cell hck 0)
            clear hck hge
            have HT_n := Aside0.mk (HT.out.below hb)
            have HB_n := Aside0.mk (HB.out.trans (hb.mono HB.out.size))
            have HM_n := Aside0.mk (HM.out.below hb)
            clear HT; have HT := HT_n; clear HT_n
            clear HB; have HB := HB_n; clear HB_n
            clear HM; have HM := HM_n; clear HM_n
            clear hb
            simp only [rqOf, Rq.c]
            go_wp2_with fail
            refine calls_at (fun W => Below w_5.heap.size w_5 W) (below_alloc (Below.refl _ _) _) (fun W hW => ?_)
            have hb := hW
            clear hW
            have CKn := Aside0.mk (pw_cell_below hb CK.out)
            clear CK; have CK := CKn; clear CKn
            have HT_n := Aside0.mk (HT.out.below hb)
            have HB_n := Aside0.mk (HB.out.trans (hb.mono HB.out.size))
            have HM_n := Aside0.mk (HM.out.below hb)
            clear HT; have HT := HT_n; clear HT_n
            clear HB; have HB := HB_n; clear HB_n
            clear HM; have HM := HM_n; clear HM_n
            clear hb
            go_at_call 16
            refine (apply_one g b _ (Fk kK d 3 c) ({ rqOf 7 (p.extract 0 50) 0 with fl := 9, exp := -1, bytes := 50 }) kK ⟨gk, 0, none⟩ 1 _ _ _ HM.out (by have := HL.out; unfold maxLen; omega) (by decide) CK.out (show (7 : Int) ≠ 1 ∧ (7 : Int) ≠ 2 ∧ (7 : Int) ≠ 13 by decide) HT.out (show (p.extract 0 50).size ≤ 140737488355328 by have := HS.out; omega) (show (0 : Int) ≤ 0 by decide)).mono ?_
            rintro e_54 w_6 ⟨rfl, hmd, hm⟩
            rw [to_joinb7 kK d (p.extract 0 50) 3 c _ _ 50 HS.out.1] at hmd ⊢
            simp only [An.c, ans, say]
            clear CK
            have HT_n := Aside0.mk (HT.out.mod hm (fun e => by have := HG.out; omega))
            have HB_n := Aside0.mk (hm.after HB.out HB.out.size (fun q hq => by rw [hq]; exact HG.out.1))
            clear HT; have HT := HT_n; clear HT_n
            clear HB; have HB := HB_n; clear HB_n
            clear HM; have HM := Aside0.mk hmd; clear hmd hm
            have hfd := fld 2
            go_wp2_with fail
            go_roundg (N - (i + 1))
            case measure => have := HI.out; have := HL.out; have := HN.out; omega
            case rel =>
              exact ⟨i + 1, (p.extract 0 50) ++ d, _, by have := HI.out; have := HL.out; have := HN.out; omega, rfl, by go_num, by rw [ByteArray.size_append]; have := HS.out; omega, HM.out, HT.out, HB.out⟩
        · have r4 : decide ((50 : Int) < (p.size : Int)) = false := decide_eq_false (by omega)
          have r4' : ¬ (50 : Int) < (p.size : Int) := by omega
          cases dn
          · have HS := Aside0.mk (show d.size + p.size ≤ 1048576 ∧ d.size + p.size ≤ 200 + 50 * (i + 1) ∧ p.size ≤ 50 by have := HMM.out; have := HL.out; omega)
            have hs1 : (d.size : Int) ≤ 1200 := by have := HMM.out; have := HL.out; omega
            have hs2 : d.size ≤ 1200 := by omega
            have hs3 : ¬ 9223372036854775807 < d.size + 50 := by omega
            have hs4 : ¬ 9223372036854775807 < 50 + d.size := by omega
            have hs5 : p.size ≤ 50 := by omega
            have hs6 : ¬ 9223372036854775807 < d.size + p.size := by omega
            have hs7 : ¬ 9223372036854775807 < p.size + d.size := by omega
            go_wp2_with fail
            go_at_call 15
            refine (of_calls 6 kK p 0 _).mono ?_
            rintro e_53 w_5 ⟨gk, rfl, hck, hge, hb⟩
            have CK := Aside0.mk (blk_cell hck 0)
            clear hck hge
            have HT_n := Aside0.mk (HT.out.below hb)
            have HB_n := Aside0.mk (HB.out.trans (hb.mono HB.out.size))
            have HM_n := Aside0.mk (HM.out.below hb)
            clear HT; have HT := HT_n; clear HT_n
            clear HB; have HB := HB_n; clear HB_n
            clear HM; have HM := HM_n; clear HM_n
            clear hb
            simp only [rqOf, Rq.c]
            go_wp2_with fail
            refine calls_at (fun W => Below w_5.heap.size w_5 W) (below_alloc (Below.refl _ _) _) (fun W hW => ?_)
            have hb := hW
            clear hW
            have CKn := Aside0.mk (pw_cell_below hb CK.out)
            clear CK; have CK := CKn; clear CKn
            have HT_n := Aside0.mk (HT.out.below hb)
            have HB_n := Aside0.mk (HB.out.trans (hb.mono HB.out.size))
            have HM_n := Aside0.mk (HM.out.below hb)
            clear HT; have HT := HT_n; clear HT_n
            clear HB; have HB := HB_n; clear HB_n
            clear HM; have HM := HM_n; clear HM_n
            clear hb
            go_at_call 16
            refine (apply_one g b _ (Fk kK d 3 c) ({ rqOf 6 p 0 with fl := 9, exp := -1, bytes := (p.size : Int) }) kK ⟨gk, 0, none⟩ 1 _ _ _ HM.out (by have := HL.out; unfold maxLen; omega) (by decide) CK.out (show (6 : Int) ≠ 1 ∧ (6 : Int) ≠ 2 ∧ (6 : Int) ≠ 13 by decide) HT.out (show p.size ≤ 140737488355328 by have := HS.out; omega) (show (0 : Int) ≤ 0 by decide)).mono ?_
            rintro e_54 w_6 ⟨rfl, hmd, hm⟩
            rw [to_joinb6 kK d p 3 c _ _ (p.size : Int) HS.out.1] at hmd ⊢
            simp only [An.c, ans, say]
            clear CK
            have HT_n := Aside0.mk (HT.out.mod hm (fun e => by have := HG.out; omega))
            have HB_n := Aside0.mk (hm.after HB.out HB.out.size (fun q hq => by rw [hq]; exact HG.out.1))
            clear HT; have HT := HT_n; clear HT_n
            clear HB; have HB := HB_n; clear HB_n
            clear HM; have HM := Aside0.mk hmd; clear hmd hm
            have hfd := fld 2
            go_wp2_with fail
            go_roundg (N - (i + 1))
            case measure => have := HI.out; have := HL.out; have := HN.out; omega
            case rel =>
              exact ⟨i + 1, d ++ p, _, by have := HI.out; have := HL.out; have := HN.out; omega, rfl, by go_num, by rw [ByteArray.size_append]; have := HS.out; omega, HM.out, HT.out, HB.out⟩
          · have HS := Aside0.mk (show d.size + p.size ≤ 1048576 ∧ d.size + p.size ≤ 200 + 50 * (i + 1) ∧ p.size ≤ 50 by have := HMM.out; have := HL.out; omega)
            have hs1 : (d.size : Int) ≤ 1200 := by have := HMM.out; have := HL.out; omega
            have hs2 : d.size ≤ 1200 := by omega
            have hs3 : ¬ 9223372036854775807 < d.size + 50 := by omega
            have hs4 : ¬ 9223372036854775807 < 50 + d.size := by omega
            have hs5 : p.size ≤ 50 := by omega
            have hs6 : ¬ 9223372036854775807 < d.size + p.size := by omega
            have hs7 : ¬ 9223372036854775807 < p.size + d.size := by omega
            go_wp2_with fail
            go_at_call 15
            refine (of_calls 7 kK p 0 _).mono ?_
            rintro e_53 w_5 ⟨gk, rfl, hck, hge, hb⟩
            have CK := Aside0.mk (blk_cell hck 0)
            clear hck hge
            have HT_n := Aside0.mk (HT.out.below hb)
            have HB_n := Aside0.mk (HB.out.trans (hb.mono HB.out.size))
            have HM_n := Aside0.mk (HM.out.below hb)
            clear HT; have HT := HT_n; clear HT_n
            clear HB; have HB := HB_n; clear HB_n
            clear HM; have HM := HM_n; clear HM_n
            clear hb
            simp only [rqOf, Rq.c]
            go_wp2_with fail
            refine calls_at (fun W => Below w_5.heap.size w_5 W) (below_alloc (Below.refl _ _) _) (fun W hW => ?_)
            have hb := hW
            clear hW
            have CKn := Aside0.mk (pw_cell_below hb CK.out)
            clear CK; have CK := CKn; clear CKn
            have HT_n := Aside0.mk (HT.out.below hb)
            have HB_n := Aside0.mk (HB.out.trans (hb.mono HB.out.size))
            have HM_n := Aside0.mk (HM.out.below hb)
            clear HT; have HT := HT_n; clear HT_n
            clear HB; have HB := HB_n; clear HB_n
            clear HM; have HM := HM_n; clear HM_n
            clear hb
            go_at_call 16
            refine (apply_one g b _ (Fk kK d 3 c) ({ rqOf 7 p 0 with fl := 9, exp := -1, bytes := (p.size : Int) }) kK ⟨gk, 0, none⟩ 1 _ _ _ HM.out (by have := HL.out; unfold maxLen; omega) (by decide) CK.out (show (7 : Int) ≠ 1 ∧ (7 : Int) ≠ 2 ∧ (7 : Int) ≠ 13 by decide) HT.out (show p.size ≤ 140737488355328 by have := HS.out; omega) (show (0 : Int) ≤ 0 by decide)).mono ?_
            rintro e_54 w_6 ⟨rfl, hmd, hm⟩
            rw [to_joinb7 kK d p 3 c _ _ (p.size : Int) HS.out.1] at hmd ⊢
            simp only [An.c, ans, say]
            clear CK
            have HT_n := Aside0.mk (HT.out.mod hm (fun e => by have := HG.out; omega))
            have HB_n := Aside0.mk (hm.after HB.out HB.out.size (fun q hq => by rw [hq]; exact HG.out.1))
            clear HT; have HT := HT_n; clear HT_n
            clear HB; have HB := HB_n; clear HB_n
            clear HM; have HM := Aside0.mk hmd; clear hmd hm
            have hfd := fld 2
            go_wp2_with fail
            go_roundg (N - (i + 1))
            case measure => have := HI.out; have := HL.out; have := HN.out; omega
            case rel =>
              exact ⟨i + 1, p ++ d, _, by have := HI.out; have := HL.out; have := HN.out; omega, rfl, by go_num, by rw [ByteArray.size_append]; have := HS.out; omega, HM.out, HT.out, HB.out⟩
      · have r3 : decide ((i : Int) < (n2 : Int)) = false := decide_eq_false (by omega)
        have r3' : ¬ (i : Int) < (n2 : Int) := by omega
        clear hl2
        by_cases hp : 50 < p.size
        · have r4 : decide ((50 : Int) < (p.size : Int)) = true := decide_eq_true (by omega)
          have r4' : (50 : Int) < (p.size : Int) := by omega
          have hpx : (p.extract 0 50).size = 50 := by rw [ByteArray.size_extract]; omega
          have HS := Aside0.mk (show d.size + (p.extract 0 50).size ≤ 1048576 ∧ d.size + (p.extract 0 50).size ≤ 200 + 50 * (i + 1) ∧ (p.extract 0 50).size ≤ 50 by have := HMM.out; have := HL.out; omega)
          have hs1 : (d.size : Int) ≤ 1200 := by have := HMM.out; have := HL.out; omega
          have hs2 : d.size ≤ 1200 := by omega
          have hs3 : ¬ 9223372036854775807 < d.size + 50 := by omega
          have hs4 : ¬ 9223372036854775807 < 50 + d.size := by omega
          go_wp2_with fail
          go_at_call 15
          refine (of_calls 6 kK (p.extract 0 50) 0 _).mono ?_
          rintro e_53 w_5 ⟨gk, rfl, hck, hge, hb⟩
          have CK := Aside0.mk (blk_cell hck 0)
          clear hck hge
          have HT_n := Aside0.mk (HT.out.below hb)
          have HB_n := Aside0.mk (HB.out.trans (hb.mono HB.out.size))
          have HM_n := Aside0.mk (HM.out.below hb)
          clear HT; have HT := HT_n; clear HT_n
          clear HB; have HB := HB_n; clear HB_n
          clear HM; have HM := HM_n; clear HM_n
          clear hb
          simp only [rqOf, Rq.c]
          go_wp2_with fail
          refine calls_at (fun W => Below w_5.heap.size w_5 W) (below_alloc (Below.refl _ _) _) (fun W hW => ?_)
          have hb := hW
          clear hW
          have CKn := Aside0.mk (pw_cell_below hb CK.out)
          clear CK; have CK := CKn; clear CKn
          have HT_n := Aside0.mk (HT.out.below hb)
          have HB_n := Aside0.mk (HB.out.trans (hb.mono HB.out.size))
          have HM_n := Aside0.mk (HM.out.below hb)
          clear HT; have HT := HT_n; clear HT_n
          clear HB; have HB := HB_n; clear HB_n
          clear HM; have HM := HM_n; clear HM_n
          clear hb
          go_at_call 16
          refine (apply_one g b _ (Fk kK d 3 c) ({ rqOf 6 (p.extract 0 50) 0 with fl := 9, exp := -1, bytes := 50 }) kK ⟨gk, 0, none⟩ 1 _ _ _ HM.out (by have := HL.out; unfold maxLen; omega) (by decide) CK.out (show (6 : Int) ≠ 1 ∧ (6 : Int) ≠ 2 ∧ (6 : Int) ≠ 13 by decide) HT.out (show (p.extract 0 50).size ≤ 140737488355328 by have := HS.out; omega) (show (0 : Int) ≤ 0 by decide)).mono ?_
          rintro e_54 w_6 ⟨rfl, hmd, hm⟩
          rw [to_joinb6 kK d (p.extract 0 50) 3 c _ _ 50 HS.out.1] at hmd ⊢
          simp only [An.c, ans, say]
          clear CK
          have HT_n := Aside0.mk (HT.out.mod hm (fun e => by have := HG.out; omega))
          have HB_n := Aside0.mk (hm.after HB.out HB.out.size (fun q hq => by rw [hq]; exact HG.out.1))
          clear HT; have HT := HT_n; clear HT_n
          clear HB; have HB := HB_n; clear HB_n
          clear HM; have HM := Aside0.mk hmd; clear hmd hm
          have hfd := fld 2
          go_wp2_with fail
          go_roundg (N - (i + 1))
          case measure => have := HI.out; have := HL.out; have := HN.out; omega
          case rel =>
            exact ⟨i + 1, d ++ (p.extract 0 50), _, by have := HI.out; have := HL.out; have := HN.out; omega, rfl, by go_num, by rw [ByteArray.size_append]; have := HS.out; omega, HM.out, HT.out, HB.out⟩
        · have r4 : decide ((50 : Int) < (p.size : Int)) = false := decide_eq_false (by omega)
          have r4' : ¬ (50 : Int) < (p.size : Int) := by omega
          have HS := Aside0.mk (show d.size + p.size ≤ 1048576 ∧ d.size + p.size ≤ 200 + 50 * (i + 1) ∧ p.size ≤ 50 by have := HMM.out; have := HL.out; omega)
          have hs1 : (d.size : Int) ≤ 1200 := by have := HMM.out; have := HL.out; omega
          have hs2 : d.size ≤ 1200 := by omega
          have hs3 : ¬ 9223372036854775807 < d.size + 50 := by omega
          have hs4 : ¬ 9223372036854775807 < 50 + d.size := by omega
          have hs5 : p.size ≤ 50 := by omega
          have hs6 : ¬ 9223372036854775807 < d.size + p.size := by omega
          have hs7 : ¬ 9223372036854775807 < p.size + d.size := by omega
          go_wp2_with fail
          go_at_call 15
          refine (of_calls 6 kK p 0 _).mono ?_
          rintro e_53 w_5 ⟨gk, rfl, hck, hge, hb⟩
          have CK := Aside0.mk (blk_cell hck 0)
          clear hck hge
          have HT_n := Aside0.mk (HT.out.below hb)
          have HB_n := Aside0.mk (HB.out.trans (hb.mono HB.out.size))
          have HM_n := Aside0.mk (HM.out.below hb)
          clear HT; have HT := HT_n; clear HT_n
          clear HB; have HB := HB_n; clear HB_n
          clear HM; have HM := HM_n; clear HM_n
          clear hb
          simp only [rqOf, Rq.c]
          go_wp2_with fail
          refine calls_at (fun W => Below w_5.heap.size w_5 W) (below_alloc (Below.refl _ _) _) (fun W hW => ?_)
          have hb := hW
          clear hW
          have CKn := Aside0.mk (pw_cell_below hb CK.out)
          clear CK; have CK := CKn; clear CKn
          have HT_n := Aside0.mk (HT.out.below hb)
          have HB_n := Aside0.mk (HB.out.trans (hb.mono HB.out.size))
          have HM_n := Aside0.mk (HM.out.below hb)
          clear HT; have HT := HT_n; clear HT_n
          clear HB; have HB := HB_n; clear HB_n
          clear HM; have HM := HM_n; clear HM_n
          clear hb
          go_at_call 16
          refine (apply_one g b _ (Fk kK d 3 c) ({ rqOf 6 p 0 with fl := 9, exp := -1, bytes := (p.size : Int) }) kK ⟨gk, 0, none⟩ 1 _ _ _ HM.out (by have := HL.out; unfold maxLen; omega) (by decide) CK.out (show (6 : Int) ≠ 1 ∧ (6 : Int) ≠ 2 ∧ (6 : Int) ≠ 13 by decide) HT.out (show p.size ≤ 140737488355328 by have := HS.out; omega) (show (0 : Int) ≤ 0 by decide)).mono ?_
          rintro e_54 w_6 ⟨rfl, hmd, hm⟩
          rw [to_joinb6 kK d p 3 c _ _ (p.size : Int) HS.out.1] at hmd ⊢
          simp only [An.c, ans, say]
          clear CK
          have HT_n := Aside0.mk (HT.out.mod hm (fun e => by have := HG.out; omega))
          have HB_n := Aside0.mk (hm.after HB.out HB.out.size (fun q hq => by rw [hq]; exact HG.out.1))
          clear HT; have HT := HT_n; clear HT_n
          clear HB; have HB := HB_n; clear HB_n
          clear HM; have HM := Aside0.mk hmd; clear hmd hm
          have hfd := fld 2
          go_wp2_with fail
          go_roundg (N - (i + 1))
          case measure => have := HI.out; have := HL.out; have := HN.out; omega
          case rel =>
            exact ⟨i + 1, d ++ p, _, by have := HI.out; have := HL.out; have := HN.out; omega, rfl, by go_num, by rw [ByteArray.size_append]; have := HS.out; omega, HM.out, HT.out, HB.out⟩
    · by_cases hl2 : i < n1
      · have r1 : decide ((i : Int) < (n1 : Int)) = true := decide_eq_true (by omega)
        have r2 : decide ((i : Int) < 20) = false := decide_eq_false (by have := HN.out; omega)
        have r1' : (i : Int) < (n1 : Int) := by omega
        have r2' : ¬ (i : Int) < 20 := by have := HN.out; omega
        have HI2 := Aside0.mk (show i ≤ 20 by have := HN.out; omega)
        clear hi hlt hm hl2
        go_wp2_with fail
        go_at_call 15
        refine (of_calls 1 kK eA 0 _).mono ?_
        rintro e_53 w_5 ⟨gk, rfl, hck, hge, hb⟩
        have CK := Aside0.mk (blk_cell hck 0)
        clear hck hge
        have HT_n := Aside0.mk (HT.out.below hb)
        have HB_n := Aside0.mk (HB.out.trans (hb.mono HB.out.size))
        have HM_n := Aside0.mk (HM.out.below hb)
        clear HT; have HT := HT_n; clear HT_n
        clear HB; have HB := HB_n; clear HB_n
        clear HM; have HM := HM_n; clear HM_n
        clear hb
        simp only [rqOf, Rq.c]
        go_wp2_with fail
        go_at_call 16
        have HKs := Aside0.mk (show Ks _ (some ⟨gk, 0, none⟩) [kK] from ks_one CK.out (by decide))
        refine (apply_get1 g b _ (Fk kK d 3 c) (rqOf 1 eA 0) (some ⟨gk, 0, none⟩) 1 [kK] _ _ _ HM.out HKs.out (by decide) rfl).mono ?_
        rintro e_54 w_6 ⟨v, rfl, hown, hb⟩
        rw [Fk.founds] at hown
        obtain ⟨Av, cv, rfl⟩ := own_slice hown
        have RV := Aside0.mk hown
        clear hown HKs CK
        simp only [ansV]
        have HT_n := Aside0.mk (HT.out.below hb)
        have HB_n := Aside0.mk (HB.out.trans (hb.mono HB.out.size))
        have HM_n := Aside0.mk (HM.out.below hb)
        clear HT; have HT := HT_n; clear HT_n
        clear HB; have HB := HB_n; clear HB_n
        clear HM; have HM := HM_n; clear HM_n
        clear hb
        have h5 := RV.out
        obtain ⟨go, rfl⟩ : ∃ go, Av = some ⟨go, 0, none⟩ := by
          rcases h5.2 with ⟨e, hz⟩ | ⟨go, cap, cur, e, _⟩
          · simp at hz
          · injection e with e1
            exact ⟨go, e1⟩
        have q2 : (w_6.alloc (.cells #[.int .i64 1, .slice (some ⟨go, 0, none⟩) 1 cv, .bool false, .int .u64 0, .string ⟨#[]⟩, .int .i64 0, .int .i64 0, .int .i64 0, .int .i64 0] 32)).cell? ⟨go, 2, none⟩ = some (.string d) := (own_alloc h5 _).cellAt 2 (by simp)
        have q3 : (w_6.alloc (.cells #[.int .i64 1, .slice (some ⟨go, 0, none⟩) 1 cv, .bool false, .int .u64 0, .string ⟨#[]⟩, .int .i64 0, .int .i64 0, .int .i64 0, .int .i64 0] 32)).cell? ⟨go, 1, none⟩ = some (.int .i64 3) := (own_alloc h5 _).cellAt 1 (by simp)
        have HTn := Aside0.mk (HT.out.alloc (.cells #[.int .i64 1, .slice (some ⟨go, 0, none⟩) 1 cv, .bool false, .int .u64 0, .string ⟨#[]⟩, .int .i64 0, .int .i64 0, .int .i64 0, .int .i64 0] 32))
        have HBn := Aside0.mk (below_step HB.out (below_alloc (Below.refl _ _) (.cells #[.int .i64 1, .slice (some ⟨go, 0, none⟩) 1 cv, .bool false, .int .u64 0, .string ⟨#[]⟩, .int .i64 0, .int .i64 0, .int .i64 0, .int .i64 0] 32)))
        clear HT HB h5 RV HM
        go_wp2_with fail
        go_at_call 3
        refine (runs_calls _ HTn.out).mono ?_
        rintro e_1 w_1 ⟨rfl, hb⟩
        have HBm := Aside0.mk (HBn.out.trans (hb.mono HBn.out.size))
        clear hb HBn
        go_wp2
        go_ret
        exact ⟨rfl, HBm.out⟩
      · have r1 : decide ((i : Int) < (n1 : Int)) = false := decide_eq_false (by omega)
        have r1' : ¬ (i : Int) < (n1 : Int) := by omega
        have HI2 := Aside0.mk (show i ≤ 20 by have := HN.out; omega)
        clear hi hlt hm hl2
        go_wp2_with fail
        go_at_call 15
        refine (of_calls 1 kK eA 0 _).mono ?_
        rintro e_53 w_5 ⟨gk, rfl, hck, hge, hb⟩
        have CK := Aside0.mk (blk_cell hck 0)
        clear hck hge
        have HT_n := Aside0.mk (HT.out.below hb)
        have HB_n := Aside0.mk (HB.out.trans (hb.mono HB.out.size))
        have HM_n := Aside0.mk (HM.out.below hb)
        clear HT; have HT := HT_n; clear HT_n
        clear HB; have HB := HB_n; clear HB_n
        clear HM; have HM := HM_n; clear HM_n
        clear hb
        simp only [rqOf, Rq.c]
        go_wp2_with fail
        go_at_call 16
        have HKs := Aside0.mk (show Ks _ (some ⟨gk, 0, none⟩) [kK] from ks_one CK.out (by decide))
        refine (apply_get1 g b _ (Fk kK d 3 c) (rqOf 1 eA 0) (some ⟨gk, 0, none⟩) 1 [kK] _ _ _ HM.out HKs.out (by decide) rfl).mono ?_
        rintro e_54 w_6 ⟨v, rfl, hown, hb⟩
        rw [Fk.founds] at hown
        obtain ⟨Av, cv, rfl⟩ := own_slice hown
        have RV := Aside0.mk hown
        clear hown HKs CK
        simp only [ansV]
        have HT_n := Aside0.mk (HT.out.below hb)
        have HB_n := Aside0.mk (HB.out.trans (hb.mono HB.out.size))
        have HM_n := Aside0.mk (HM.out.below hb)
        clear HT; have HT := HT_n; clear HT_n
        clear HB; have HB := HB_n; clear HB_n
        clear HM; have HM := HM_n; clear HM_n
        clear hb
        have h5 := RV.out
        obtain ⟨go, rfl⟩ : ∃ go, Av = some ⟨go, 0, none⟩ := by
          rcases h5.2 with ⟨e, hz⟩ | ⟨go, cap, cur, e, _⟩
          · simp at hz
          · injection e with e1
            exact ⟨go, e1⟩
        have q2 : (w_6.alloc (.cells #[.int .i64 1, .slice (some ⟨go, 0, none⟩) 1 cv, .bool false, .int .u64 0, .string ⟨#[]⟩, .int .i64 0, .int .i64 0, .int .i64 0, .int .i64 0] 32)).cell? ⟨go, 2, none⟩ = some (.string d) := (own_alloc h5 _).cellAt 2 (by simp)
        have q3 : (w_6.alloc (.cells #[.int .i64 1, .slice (some ⟨go, 0, none⟩) 1 cv, .bool false, .int .u64 0, .string ⟨#[]⟩, .int .i64 0, .int .i64 0, .int .i64 0, .int .i64 0] 32)).cell? ⟨go, 1, none⟩ = some (.int .i64 3) := (own_alloc h5 _).cellAt 1 (by simp)
        have HTn := Aside0.mk (HT.out.alloc (.cells #[.int .i64 1, .slice (some ⟨go, 0, none⟩) 1 cv, .bool false, .int .u64 0, .string ⟨#[]⟩, .int .i64 0, .int .i64 0, .int .i64 0, .int .i64 0] 32))
        have HBn := Aside0.mk (below_step HB.out (below_alloc (Below.refl _ _) (.cells #[.int .i64 1, .slice (some ⟨go, 0, none⟩) 1 cv, .bool false, .int .u64 0, .string ⟨#[]⟩, .int .i64 0, .int .i64 0, .int .i64 0, .int .i64 0] 32)))
        clear HT HB h5 RV HM
        go_wp2_with fail
        go_at_call 3
        refine (runs_calls _ HTn.out).mono ?_
        rintro e_1 w_1 ⟨rfl, hb⟩
        have HBm := Aside0.mk (HBn.out.trans (hb.mono HBn.out.size))
        clear hb HBn
        go_wp2
        go_ret
        exact ⟨rfl, HBm.out⟩
theorem joins_card (st : ByteArray) (A1 : Option Addr) (n1 c1 : Nat) (ps : List ByteArray) (A2 : Option Addr) (n2 c2 : Nat) (ds : List Bool) (w : World) (ht : Pow w) (hu : Arg scl w A1 n1 ps) (hv : Arg bcl w A2 n2 ds) :
    Calls Tryd.prog 6 #[.string st, .slice A1 n1 c1, .slice A2 n2 c2] w fun e w' => e = .returned (.bool true) ∧ Below w.heap.size w w' := by
  by_cases hs : 200 < st.size
  · exact joins_long st hs _ _ w ht
  · exact joins_calls st (by omega) A1 n1 c1 ps A2 n2 c2 ds w ht hu hv
end Go.Proofs.YtepklobkppdliaaDoor.Md
