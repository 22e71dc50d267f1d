/- The history: HistoryRow. -/
import Derived.Test.YtepklobkppdliaaDoorQSm4
namespace Go.Proofs.YtepklobkppdliaaDoor.Hs
open Go.RowKit Go.Proofs.YtepklobkppdliaaDoorW.PrintWords Go.Proofs.YtepklobkppdliaaDoorW.PrintLast Go.Proofs.YtepklobkppdliaaDoorW.PrintMore Go.Proofs.YtepklobkppdliaaDoor.Lib Go.Proofs.YtepklobkppdliaaDoor.Open Go.Proofs.YtepklobkppdliaaDoor.Md
open Go.Proofs.YtepklobkppdliaaDoor.Rm (Rm)
theorem cell_low {w W : World} {p : Addr} {u : Value} (h : w.cell? p = some u) (hb : Below w.heap.size w W) : W.cell? p = some u := by
  rw [mod_cell (Mod.of_below hb (fun _ => False)) (fun h => h) (World.block_lt_of_cell? _ _ h)]
  exact h
def five : Array Value := #[.int .i64 1, .int .i64 3, .int .i64 4, .int .i64 5, .int .i64 9]
theorem five_at (wr : World) (y : Nat) (hy : y ≤ 4) : ∃ vb : Int, (vb = 1 ∨ vb = 3 ∨ vb = 4 ∨ vb = 5 ∨ vb = 9) ∧ (wr.alloc (.cells #[.int .i64 1, .int .i64 3, .int .i64 4, .int .i64 5, .int .i64 9] 3)).cell? ⟨wr.heap.size, y, none⟩ = some (.int .i64 vb) := by
  have hb := blk_new wr (.cells five 3)
  rcases (by omega : y = 0 ∨ y = 1 ∨ y = 2 ∨ y = 3 ∨ y = 4) with rfl | rfl | rfl | rfl | rfl
  · exact ⟨1, by omega, blk_cell hb 0⟩
  · exact ⟨3, by omega, blk_cell hb 1⟩
  · exact ⟨4, by omega, blk_cell hb 2⟩
  · exact ⟨5, by omega, blk_cell hb 3⟩
  · exact ⟨9, by omega, blk_cell hb 4⟩
set_option maxHeartbeats 16000000 in
set_option maxRecDepth 100000 in
theorem row_card {a0 : Option Addr} {n c0 : Nat} {xs : List Oc} (lie : Int) (w : World) (hP : Pow w) (hA : Arg ocl w a0 n xs) :
    Calls Tryd.prog 12 #[.slice a0 n c0, .int .i64 lie] w fun e w' => e = .returned (.bool true) ∧ Below w.heap.size w w' := by
  have HP := Aside0.mk hP
  have HA := Aside0.mk hA
  have hn63 : (n : Int) ≤ 9223372036854775807 := by have := hA.2.1; omega
  clear hP hA
  go_enter Tryd.func12, Tryd.ntmps12
  go_wp2
  go_loopg [5, 7, 8, 9] n (fun R s5 s7 s8 s9 wr => RowAt w n w.heap.size R s5 s7 s8 s9 wr)
  case atStart =>
    exact ⟨0, 0, false, none, 0, [], .slice none 0 0, [], by omega, rfl, rfl, rfl, rfl, ⟨own_nil _ _ _ _, fun e he => (by cases he), ⟨blk_new w _, Nat.le_refl _, own_nil _ _ _ _⟩, below_alloc (Below.refl _ _) _⟩, .inl rfl, HistOk.start⟩
  case round =>
    obtain ⟨i, k, told, A, c, evs, v, L, hi, rfl, rfl, rfl, rfl, hrw, hra, hok⟩ := hrel
    have HI := Aside0.mk hi
    have HRW := Aside0.mk hrw
    have HRA := Aside0.mk hra
    have HOK := Aside0.mk hok
    clear hi hrw hra hok
    by_cases hlt : i < n
    · by_cases hk9 : k < 9
      · obtain ⟨x, hx⟩ : ∃ x, xs[i]? = some x := ⟨_, List.getElem?_eq_getElem (by have := HA.out.1; omega)⟩
        obtain ⟨q, off, rfl, hr⟩ := (HA.out.below HRW.out.low).at_ ocl_len i x hx
        have r1 : decide ((i : Int) < (n : Int)) = true := decide_eq_true (by omega)
        have r2 : (i : Int) < (n : Int) := by omega
        have r3 : decide ((k : Int) < 9) = true := decide_eq_true (by omega)
        have r4 : (k : Int) < 9 := by omega
        have cv : ∀ o, (wr.alloc o).cell? ⟨q, off + i * 6 + 1, none⟩ = some (.int .i64 x.verb) := fun o => cell_low (hr 1 _ rfl) (below_alloc (Below.refl _ _) o)
        have HR := Aside0.mk hr
        clear hr hx
        go_upto_region 8 with fail
        go_cut [10] from 18 to 81 (fun s10 wx => ∃ vb : Int, s10 = .int .i64 vb ∧ (vb = 1 ∨ vb = 3 ∨ vb = 4 ∨ vb = 5 ∨ vb = 9) ∧ Below wr.heap.size wr wx)
        case first =>
          go_wp2_with fail
          refine (within_four _ _).mono ?_
          rintro e_1 w_1 ⟨y, rfl, hy, rfl⟩
          obtain ⟨vb, hvb, hcl⟩ := five_at wr y hy
          have HV := Aside0.mk hvb
          have y5 : (y : Int) < 5 := by omega
          have y0 : (0 : Int) ≤ (y : Int) := by omega
          clear hvb hy
          go_wp2_with fail
          go_meet
          exact ⟨vb, rfl, HV.out, below_alloc (Below.refl _ _) _⟩
        case rest =>
          obtain ⟨vb, rfl, hvb, hb⟩ := hcut
          have HVB := Aside0.mk hvb
          have HRW1 := Aside0.mk (HRW.out.below hb)
          have cd : wc.cell? ⟨q, off + i * 6 + 2, none⟩ = some (.string x.data) := cell_low (HR.out 2 _ rfl) hb
          have cf : wc.cell? ⟨q, off + i * 6 + 4, none⟩ = some (.bool x.forget) := cell_low (HR.out 4 _ rfl) hb
          clear hvb hb cv HR HRW
          go_upto_if 44 with fail
          go_cut [11] from 18 to 81 (fun s11 wx => ∃ d : ByteArray, s11 = .string d ∧ d.size ≤ 50 ∧ wx = wc)
          case first =>
            by_cases hd : 50 < x.data.size
            · have d1 : decide ((50 : Int) < (x.data.size : Int)) = true := decide_eq_true (by omega)
              have d2 : (50 : Int) < (x.data.size : Int) := by omega
              go_wp2_with fail
              go_meet
              exact ⟨_, rfl, by simp; omega, rfl⟩
            · have d1 : decide ((50 : Int) < (x.data.size : Int)) = false := decide_eq_false (by omega)
              have d2 : ¬ (50 : Int) < (x.data.size : Int) := by omega
              go_wp2_with fail
              go_meet
              exact ⟨_, rfl, by omega, rfl⟩
          case rest =>
            obtain ⟨d, rfl, hd, rfl⟩ := hcut
            have HD := Aside0.mk hd
            clear hd cd
            go_upto_region 12 with fail
            go_cut [12] from 18 to 81 (fun s12 wx => ∃ g12 gk : Nat, s12 = .pointer (some ⟨g12, 0, none⟩) ∧ wx.heap[g12]? = some (.cells ((cRq vb d).c (.slice (some ⟨gk, 0, none⟩) 1 1)) 27 (0, 0)) ∧ wx.heap[gk]? = some (.cells #[.string keyA] 9 (0, 0)) ∧ Below wc.heap.size wc wx ∧ wc.heap.size ≤ g12)
            case first =>
              go_wp2_with fail
              go_meet
              exact ⟨wc.heap.size + 1, wc.heap.size, rfl, (by rw [heap_at, if_pos (by simp)]; rfl), blk_alloc (blk_new wc _) _, below_alloc (below_alloc (Below.refl _ _) _) _, by omega⟩
            case rest =>
              obtain ⟨g12, gy, rfl, h12, hgy, hb, hge⟩ := hcut
              have HRW2 := Aside0.mk (HRW1.out.below hb)
              have H12 := Aside0.mk h12
              have HGY := Aside0.mk hgy
              have HGE := Aside0.mk (show w.heap.size ≤ g12 from Nat.le_trans HRW1.out.low.size hge)
              have cf2 : wc.cell? ⟨q, off + i * 6 + 4, none⟩ = some (.bool x.forget) := cell_low cf hb
              clear h12 hgy hb hge cf HRW1
              go_upto_if 55 with fail
              go_cut [12] from 18 to 81 (fun s12 wx => s12 = .pointer (some ⟨g12, 0, none⟩) ∧ ∃ (v1 : Value) (L1 : List Ent), (L1 = L ∨ L1 = []) ∧ RowA L1 ∧ Rw w wx w.heap.size A c evs v1 L1 ∧ wx.heap[g12]? = some (.cells ((cRq vb d).c (.slice (some ⟨gy, 0, none⟩) 1 1)) 27 (0, 0)) ∧ wx.heap[gy]? = some (.cells #[.string keyA] 9 (0, 0)))
              case first =>
                cases hf : x.forget
                · rw [hf] at cf2
                  go_wp2_with fail
                  go_meet
                  exact ⟨rfl, v, L, .inl rfl, HRA.out, HRW2.out, H12.out, HGY.out⟩
                · rw [hf] at cf2
                  go_wp2_with fail
                  refine (fgt_calls HRW2.out HRA.out).mono ?_
                  rintro e_1 w_1 ⟨bb, v1, rfl, hr1, hm⟩
                  have HM := Aside0.mk hm
                  have HR1 := Aside0.mk hr1
                  clear hm hr1
                  go_wp2_with fail
                  go_meet
                  exact ⟨rfl, v1, [], .inr rfl, .inl rfl, HR1.out, HM.out.blk H12.out (type_ne HRW2.out.rm.blk H12.out (by decide)), HM.out.blk HGY.out (type_ne HRW2.out.rm.blk HGY.out (by decide))⟩
              case rest =>
                obtain ⟨rfl, v1, L1, hl1, hra1, hrw3, h12, hgy⟩ := hcut
                have HL1 := Aside0.mk hl1
                have HRA1 := Aside0.mk hra1
                have HRW3 := Aside0.mk hrw3
                have H12b := Aside0.mk h12
                have HGYb := Aside0.mk hgy
                clear hl1 hra1 hrw3 h12 hgy H12 HGY HRW2 cf2
                go_upto_region 15 with fail
                go_cut [13] from 18 to 81 (fun s13 wx => ∃ (g13 : Nat) (aw : Aw) (vA : Option Addr) (vc : Nat) (vs : List Fd) (v2 : Value) (L2 : List Ent), s13 = .pointer (some ⟨g13, 0, none⟩) ∧ wx.heap[g13]? = some (.cells (aw.c (.slice vA vs.length vc)) 32 (0, 0)) ∧ w.heap.size ≤ g13 ∧ ArgT Fd.c 35 wx vA vs.length vs ∧ vs.length ≤ 1000000 ∧ Rw w wx w.heap.size A c evs v2 L2 ∧ RowA L2 ∧ doesA keyA (opn (cRq vb d) aw vs) (absE L1) = (absE L2, true) ∧ (vb = 1 → aw = tAw) ∧ wx.heap[g12]? = some (.cells ((cRq vb d).c (.slice (some ⟨gy, 0, none⟩) 1 1)) 27 (0, 0)) ∧ wx.heap[gy]? = some (.cells #[.string keyA] 9 (0, 0)))
                case first =>
                  go_wp2_with (refine gate_ (.load 27 (.tmp 12)) rfl ?_; refine ev_load_row (.load 27 (.tmp 12)) rfl rfl 27 (.tmp 12) rfl g12 rfl 27 _ _ H12b.out Tryd.underlying27 rfl (by kernel_rfl) ?_)
                  refine (rap_calls HRW3.out HRA1.out (cRq vb d) (by have := HVB.out; show vb ≠ 2 ∧ vb ≠ 8 ∧ vb ≠ 13; omega) rfl HD.out (Int.le_refl 0) gy HGYb.out).mono ?_
                  rintro e_1 w_1 ⟨aw, vA, vc, vs, v2, L2, rfl, ha, hal, hr2, hra2, hdo, haw, hm⟩
                  have HAA := Aside0.mk ha
                  have HAL := Aside0.mk hal
                  have HR2 := Aside0.mk hr2
                  have HRA2 := Aside0.mk hra2
                  have HDO := Aside0.mk hdo
                  have HAW := Aside0.mk haw
                  have HM := Aside0.mk hm
                  clear ha hal hr2 hra2 hdo haw hm
                  go_wp2_with (refine gate_ (.store 32 (.tmp 13) (.tmp 60)) rfl ?_; refine ev_store_row (.store 32 (.tmp 13) (.tmp 60)) rfl rfl rfl 32 (.tmp 13) (.tmp 60) rfl w_1.heap.size (aw.c (.slice vA vs.length vc)) rfl rfl 32 A0 (blk_new w_1 _) (by kernel_rfl) rfl (aw_one aw _ rfl) ?_; intro w_2 hw2 hm2; have HW2 := Aside0.mk hw2; have HM2 := Aside0.mk hm2; clear hw2 hm2)
                  go_meet
                  have hb : Below w_1.heap.size w_1 w_2 := fresh_blk HM2.out
                  have h12 := HM.out.blk H12b.out (type_ne HRW3.out.rm.blk H12b.out (by decide))
                  have hgy := HM.out.blk HGYb.out (type_ne HRW3.out.rm.blk HGYb.out (by decide))
                  exact ⟨w_1.heap.size, aw, vA, vc, vs, v2, L2, rfl, HW2.out, HR2.out.low.size, HAA.out.below hb, HAL.out, HR2.out.below hb, HRA2.out, HDO.out, fun e => HAW.out e, (hb.block _ (blk_lt h12)).trans h12, (hb.block _ (blk_lt hgy)).trans hgy⟩
                case rest =>
                  obtain ⟨g13, aw, vA, vc, vs, v2, L2, rfl, h13, hge3, ha, hal, hr2, hra2, hdo, haw, h12, hgy⟩ := hcut
                  have H13 := Aside0.mk h13
                  have HGE3 := Aside0.mk hge3
                  have HAA := Aside0.mk ha
                  have HAL := Aside0.mk hal
                  have HR2 := Aside0.mk hr2
                  have HRA2 := Aside0.mk hra2
                  have HDO := Aside0.mk hdo
                  have HAW := Aside0.mk haw
                  have H12 := Aside0.mk h12
                  have HGY := Aside0.mk hgy
                  clear h13 hge3 ha hal hr2 hra2 hdo haw h12 hgy HRW3 H12b HGYb
                  go_upto_region 16 with fail
                  go_cut [67] from 18 to 81 (fun s67 wx => ∃ lb : Bool, s67 = .bool lb ∧ (lb = true → vb = 1) ∧ wx = wc)
                  case first =>
                    obtain ⟨b1, e1⟩ : ∃ b, b = ((k : Int) == lie) := ⟨_, rfl⟩
                    obtain ⟨b2, e2⟩ : ∃ b, b = (vb == 1) := ⟨_, rfl⟩
                    have E2 := Aside0.mk e2
                    have f1 := e1.symm
                    have f2 := e2.symm
                    clear e1 e2
                    cases b1
                    · go_wp2_with fail
                      go_meet
                      exact ⟨false, rfl, fun e => (by cases e), rfl⟩
                    · cases b2
                      · go_wp2_with fail
                        go_meet
                        exact ⟨false, rfl, fun e => (by cases e), rfl⟩
                      · go_wp2_with fail
                        go_meet
                        exact ⟨true, rfl, fun _ => beq_iff_eq.1 E2.out.symm, rfl⟩
                  case rest =>
                    obtain ⟨lb, rfl, hlb, rfl⟩ := hcut
                    have HLB := Aside0.mk hlb
                    clear hlb
                    go_upto_if 67 with fail
                    go_cut [8] from 18 to 81 (fun s8 wx => ∃ (told2 : Bool) (aw2 : Aw) (vA2 : Option Addr) (vc2 : Nat) (vs2 : List Fd), s8 = .bool told2 ∧ wx.heap[g13]? = some (.cells (aw2.c (.slice vA2 vs2.length vc2)) 32 (0, 0)) ∧ ArgT Fd.c 35 wx vA2 vs2.length vs2 ∧ vs2.length ≤ 1000000 ∧ Rw w wx w.heap.size A c evs v2 L2 ∧ HistOk (k + 1) told2 (evs ++ [cEv ((k : Int) + 1) vb keyA d gy, bEv ((k : Int) + 1) aw2 vA2 vc2 vs2]) L2 ∧ wx.heap[g12]? = some (.cells ((cRq vb d).c (.slice (some ⟨gy, 0, none⟩) 1 1)) 27 (0, 0)) ∧ wx.heap[gy]? = some (.cells #[.string keyA] 9 (0, 0)))
                    case first =>
                      cases lb
                      · go_wp2_with fail
                        go_meet
                        exact ⟨told, aw, vA, vc, vs, rfl, H13.out, HAA.out, HAL.out, HR2.out, HOK.out.step hk9 gy vA vc HVB.out HD.out HL1.out HDO.out, H12.out, HGY.out⟩
                      · obtain rfl : vb = 1 := HLB.out rfl
                        obtain rfl : aw = tAw := HAW.out rfl
                        have c13 : ∀ o, (wc.alloc o).cell? ⟨g13, 1, none⟩ = some (.slice vA vs.length vc) := fun o => blk_cell (blk_alloc H13.out o) 1
                        have f13 : ∀ o, (wc.alloc o).frozen? ⟨g13, 1, none⟩ = false := fun o => blk_frozen (blk_alloc H13.out o) 1
                        go_wp2_with fail
                        go_meet
                        have hm : Mod (fun k => k = g13) (wc.alloc (.cells (Fd.c ⟨keyA, 0, longV, 0⟩).toArray 35)) ((wc.alloc (.cells (Fd.c ⟨keyA, 0, longV, 0⟩).toArray 35)).setCell ⟨g13, 1, none⟩ (.slice (some ⟨wc.heap.size, 0, none⟩) 1 1)) := Mod.setCell (S := fun k => k = g13) (Mod.refl _ _) (p := ⟨g13, 1, none⟩) (.inl rfl) _
                        have h13 := blk_alloc H13.out (.cells (Fd.c ⟨keyA, 0, longV, 0⟩).toArray 35)
                        have hnew := hm.blk (blk_new wc (.cells (Fd.c ⟨keyA, 0, longV, 0⟩).toArray 35)) (fun e => by have := blk_lt H13.out; omega)
                        have h12 := blk_alloc H12.out (.cells (Fd.c ⟨keyA, 0, longV, 0⟩).toArray 35)
                        have hgy := blk_alloc HGY.out (.cells (Fd.c ⟨keyA, 0, longV, 0⟩).toArray 35)
                        exact ⟨true, tAw, some ⟨wc.heap.size, 0, none⟩, 1, [⟨keyA, 0, longV, 0⟩], rfl, blk_put h13 1 _ rfl, arg_one hnew rfl, (by show 1 ≤ 1000000; omega), (HR2.out.below (below_alloc (Below.refl _ _) _)).write hm h13 HGE3.out (by decide), HOK.out.lie hk9 gy _ _ HD.out, hm.blk h12 (type_ne h13 h12 (by decide)), hm.blk hgy (type_ne h13 hgy (by decide))⟩
                    case rest =>
                      obtain ⟨told2, aw2, vA2, vc2, vs2, rfl, h13, ha, hal, hr3, hok2, h12, hgy⟩ := hcut
                      have H13b := Aside0.mk (show wc.heap[g13]? = some (.cells #[.int .i64 aw2.kind, .slice vA2 vs2.length vc2, .bool aw2.gets, .int .u64 aw2.num, .string aw2.text, .int .i64 aw2.s0, .int .i64 aw2.s1, .int .i64 aw2.s2, .int .i64 aw2.s3] 32 (0, 0)) from h13)
                      have H12b := Aside0.mk (show wc.heap[g12]? = some (.cells #[.int .i64 vb, .slice (some ⟨gy, 0, none⟩) 1 1, .int .i64 0, .int .i64 0, .int .i64 0, .int .i64 0, .int .u64 0, .bool false, .string d] 27 (0, 0)) from h12)
                      have HAA2 := Aside0.mk ha
                      have HAL2 := Aside0.mk hal
                      have HR3 := Aside0.mk hr3
                      have HOK2 := Aside0.mk hok2
                      have HGY2 := Aside0.mk hgy
                      clear h13 ha hal hr3 hok2 h12 hgy H13 HAA HR2 H12 HGY HDO HAW HLB HOK
                      have r5 : (k : Int) + 1 ≤ 9 := by omega
                      have r6 : evs.length ≤ 16 := by have := HOK2.out.len; rw [List.length_append] at this; have e2 : [cEv ((k : Int) + 1) vb keyA d gy, bEv ((k : Int) + 1) aw2 vA2 vc2 vs2].length = 2 := rfl; omega
                      go_wp2_with (first | (refine gate_ (.load 27 (.tmp 12)) rfl ?_; refine ev_load_row (.load 27 (.tmp 12)) rfl rfl 27 (.tmp 12) rfl g12 rfl 27 _ _ H12b.out Tryd.underlying27 rfl (by kernel_rfl) ?_) | (refine gate_ (.load 32 (.tmp 13)) rfl ?_; refine ev_load_row (.load 32 (.tmp 13)) rfl rfl 32 (.tmp 13) rfl g13 rfl 32 _ _ H13b.out Tryd.underlying32 rfl (by kernel_rfl) ?_) | (refine gate_ (.buildSlice 62 2 #[(0, .tmp 76), (1, .tmp 79)]) rfl ?_; refine ev_lit (.buildSlice 62 2 #[(0, .tmp 76), (1, .tmp 79)]) rfl rfl 2 ([cEv ((k : Int) + 1) vb keyA d gy, bEv ((k : Int) + 1) aw2 vA2 vc2 vs2].flatMap Evt.c).toArray 59 ?hrD ?_; (case hrD => (simp only [Evt.c, cEv, bEv, List.flatMap_cons, List.flatMap_nil]; first | (go_simp; done) | (go_simp; rfl))); intro gl hgl wl hk hb; have HGL := Aside0.mk hgl; have HBL := Aside0.mk hb; have BL := Aside0.mk hk; have HR4 := Aside0.mk (HR3.out.below hb); clear hgl hk hb) | (refine gate_ (.call { callee := .builtin .append, args := #[.tmp 73, .tmp 80], argTypes := #[62, 62] }) rfl ?_; refine ev_append (.tmp 73) (.tmp 80) 62 59 rfl rfl w.heap.size _ 20 208 Tryd.underlying62 info59 rfl (by decide) (.slice A evs.length c) evs.length (evs.flatMap Evt.c) rfl HR4.out.row ⟨gl, 0, none⟩ 2 2 ([cEv ((k : Int) + 1) vb keyA d gy, bEv ((k : Int) + 1) aw2 vA2 vc2 vs2].flatMap Evt.c) rfl (flat_length Evt.c 20 evt_len _) ?nkB (flat_one evt_one _) ?nlB ?nmB ?noB ?_; (case nkB => exact fun j u hu => by rw [add_plain, blk_cell BL.out j, List.getElem?_toArray]; exact hu); (case nlB => unfold maxLen; omega); (case nmB => omega); (case noB => exact HR4.out.low.size); intro vB wB1 ho hm _ _; rw [← List.flatMap_append] at ho; obtain ⟨AB, cB, rfl⟩ := own_slice ho; have HO := Aside0.mk ho; have HM := Aside0.mk hm; clear ho hm))
                      go_roundg (n - (i + 1))
                      case measure => have := HI.out; omega
                      case rel =>
                        have e2 : evs.length + 2 = (evs ++ [cEv ((k : Int) + 1) vb keyA d gy, bEv ((k : Int) + 1) aw2 vA2 vc2 vs2]).length := by rw [List.length_append]; rfl
                        have ho := HO.out
                        rw [e2] at ho
                        rw [e2]
                        exact ⟨i + 1, k + 1, told2, AB, cB, evs ++ [cEv ((k : Int) + 1) vb keyA d gy, bEv ((k : Int) + 1) aw2 vA2 vc2 vs2], v2, L2, by have := HI.out; omega, by go_num, by go_num, rfl, rfl, HR4.out.push HM.out ho (fun e he => by
                          simp only [List.mem_cons, List.not_mem_nil, or_false] at he
                          rcases he with rfl | rfl
                          · exact cEv_ok ((HBL.out.block _ (blk_lt HGY2.out)).trans HGY2.out) rfl (by have := HVB.out; omega)
                          · exact bEv_ok2 (HAA2.out.below HBL.out) HAL2.out), HRA2.out, HOK2.out⟩
      · have r1 : decide ((i : Int) < (n : Int)) = true := decide_eq_true (by omega)
        have r2 : (i : Int) < (n : Int) := by omega
        have r3 : decide ((k : Int) < 9) = false := decide_eq_false (by omega)
        have r4 : ¬ (k : Int) < 9 := by omega
        have hl18 : evs.length ≤ 18 := by have := HOK.out.len; have := HOK.out.few; omega
        have HB0 := Aside0.mk HRW.out.low
        go_wp2_with fail
        refine (check_calls A c evs keyA wr _ (evs_of HRW.out.row rfl (by omega) HRW.out.evs) rfl HOK.out.ops.1 HOK.out.ops.2 (HP.out.below HB0.out)).mono ?_
        rintro e_1 w_1 ⟨rfl, hb⟩
        rw [HOK.out.order]
        have HB1 := Aside0.mk (below_then HB0.out HB0.out.size hb)
        clear hb
        cases told
        · go_wp2_with fail
          refine (hruns_calls w_1 (HP.out.below HB1.out)).mono ?_
          rintro e_2 w_2 ⟨rfl, hb⟩
          have HB2 := Aside0.mk (below_then HB1.out HB1.out.size hb)
          clear hb
          go_wp2_with fail
          go_ret
          exact ⟨rfl, HB2.out⟩
        · go_wp2_with fail
          refine (hruns_calls w_1 (HP.out.below HB1.out)).mono ?_
          rintro e_2 w_2 ⟨rfl, hb⟩
          have HB2 := Aside0.mk (below_then HB1.out HB1.out.size hb)
          clear hb
          go_wp2_with fail
          go_ret
          exact ⟨rfl, HB2.out⟩
    · have r1 : decide ((i : Int) < (n : Int)) = false := decide_eq_false (by omega)
      have r2 : ¬ (i : Int) < (n : Int) := by omega
      have hl18 : evs.length ≤ 18 := by have := HOK.out.len; have := HOK.out.few; omega
      have HB0 := Aside0.mk HRW.out.low
      go_wp2_with fail
      refine (check_calls A c evs keyA wr _ (evs_of HRW.out.row rfl (by omega) HRW.out.evs) rfl HOK.out.ops.1 HOK.out.ops.2 (HP.out.below HB0.out)).mono ?_
      rintro e_1 w_1 ⟨rfl, hb⟩
      rw [HOK.out.order]
      have HB1 := Aside0.mk (below_then HB0.out HB0.out.size hb)
      clear hb
      cases told
      · go_wp2_with fail
        refine (hruns_calls w_1 (HP.out.below HB1.out)).mono ?_
        rintro e_2 w_2 ⟨rfl, hb⟩
        have HB2 := Aside0.mk (below_then HB1.out HB1.out.size hb)
        clear hb
        go_wp2_with fail
        go_ret
        exact ⟨rfl, HB2.out⟩
      · go_wp2_with fail
        refine (hruns_calls w_1 (HP.out.below HB1.out)).mono ?_
        rintro e_2 w_2 ⟨rfl, hb⟩
        have HB2 := Aside0.mk (below_then HB1.out HB1.out.size hb)
        clear hb
        go_wp2_with fail
        go_ret
        exact ⟨rfl, HB2.out⟩
end Go.Proofs.YtepklobkppdliaaDoor.Hs
