/- The history: made. -/
import Derived.Test.YtepklobkppdliaaDoorVSn2
namespace Go.Proofs.YtepklobkppdliaaDoor.Hs
open Go.RowKit Go.Proofs.YtepklobkppdliaaDoorW.PrintWords Go.Proofs.YtepklobkppdliaaDoorW.PrintLast Go.Proofs.YtepklobkppdliaaDoorW.PrintMore Go.Proofs.YtepklobkppdliaaDoor.Lib Go.Proofs.YtepklobkppdliaaDoor.Open Go.Proofs.YtepklobkppdliaaDoor.Md
open Go.Proofs.YtepklobkppdliaaDoor.Rm (Rm)
theorem within3 (n : Int) (w : World) : Calls Tryd.prog 21 #[.int .i64 n, .int .i64 0, .int .i64 3] w fun e w' => ∃ x : Nat, e = .returned (.int .i64 (x : Int)) ∧ x ≤ 3 ∧ w' = w := within_any n 3 (by omega) w
theorem within7 (n : Int) (w : World) : Calls Tryd.prog 21 #[.int .i64 n, .int .i64 0, .int .i64 7] w fun e w' => ∃ x : Nat, e = .returned (.int .i64 (x : Int)) ∧ x ≤ 7 ∧ w' = w := within_any n 7 (by omega) w
theorem Parts.start {w : World} {g : Nat} {t : TypeId} {s : Nat} {cl : Pl → List Value} (hs : ∀ x, (cl x).length = s) {cs : Array Value} (h : w.heap[g]? = some (.cells cs t (0, 0))) (e : cs = ([pl0, pl0, pl0, pl0].flatMap cl).toArray) : Parts w g t s (fun _ => cl pl0) := by
  subst e
  refine ⟨_, h, ?_, fun j hj i u hu => ?_⟩
  · rw [List.size_toArray, flat_length cl s hs]; rfl
  · rw [List.getElem?_toArray]
    refine flat_at cl s hs _ j pl0 ?_ i u hu
    rcases (by omega : j = 0 ∨ j = 1 ∨ j = 2 ∨ j = 3) with rfl | rfl | rfl | rfl <;> rfl
theorem blk_new' {w : World} {n : Nat} (o : Obj) (h : w.heap.size = n) : (w.alloc o).heap[n]? = some o := by rw [← h]; exact blk_new w o
theorem size_alloc {w : World} {n : Nat} (o : Obj) (h : w.heap.size = n) : (w.alloc o).heap.size = n + 1 := by simp [h]
theorem start_rw {w w1 : World} (b1 : Below w.heap.size w w1) (p1 : w1.heap[w.heap.size]? = some (.cells #[.slice none 0 0] 75 (0, 0))) (o2 o3 o4 o5 : Obj) : Rw w ((((w1.alloc o2).alloc o3).alloc o4).alloc o5) w.heap.size none 0 [] (.slice none 0 0) [] :=
  ⟨own_nil _ _ _ _, fun e he => (by cases he), ⟨blk_alloc (blk_alloc (blk_alloc (blk_alloc p1 _) _) _) _, Nat.le_refl _, own_nil _ _ _ _⟩, below_alloc (below_alloc (below_alloc (below_alloc b1 _) _) _) _⟩
def C30 : Array Value := #[.int .i64 0, .int .i64 0, .int .i64 0, .int .i64 0]
def C92 : Array Value := #[.bool false, .bool false, .bool false, .bool false]
theorem start_pls {B : Nat} {w1 : World} (s1 : w1.heap.size = B + 1) {c2 c3 c4 c5 : Array Value} (h2 : c2 = C30 := by rfl) (h3 : c3 = ([pl0, pl0, pl0, pl0].flatMap Pl.rc).toArray := by rfl) (h4 : c4 = C92 := by rfl) (h5 : c5 = ([pl0, pl0, pl0, pl0].flatMap Pl.ac).toArray := by rfl) :
    Pls ((((w1.alloc (.cells c2 30)).alloc (.cells c3 91)).alloc (.cells c4 92)).alloc (.cells c5 93)) B (B + 1) (B + 1 + 1) (B + 1 + 1 + 1) (B + 1 + 1 + 1 + 1) (fun _ => pl0) where
  opn := Parts.start (cl := fun p => [.int .i64 (p.op : Int)]) (fun _ => rfl) (blk_alloc (blk_alloc (blk_alloc (blk_new' _ s1) _) _) _) (by rw [h2]; rfl)
  req := Parts.start rc_len (blk_alloc (blk_alloc (blk_new' _ (size_alloc _ s1)) _) _) h3
  don := Parts.start (cl := fun p => [.bool p.dn]) (fun _ => rfl) (blk_alloc (blk_new' _ (size_alloc _ (size_alloc _ s1))) _) (by rw [h4]; rfl)
  ans := Parts.start ac_len (blk_new' _ (size_alloc _ (size_alloc _ (size_alloc _ s1)))) h5
  key := fun _ _ h => absurd rfl h
  val := fun _ _ => ⟨arg_nil _ _ _ _, by show 0 ≤ 1000000; omega⟩
  low := by omega
def eight : Array Value := #[.int .i64 1, .int .i64 3, .int .i64 4, .int .i64 5, .int .i64 6, .int .i64 7, .int .i64 9, .int .i64 10]
theorem eight_at (wr : World) (y : Nat) (hy : y ≤ 7) : ∃ vb : Int, (vb = 1 ∨ vb = 3 ∨ vb = 4 ∨ vb = 5 ∨ vb = 6 ∨ vb = 7 ∨ vb = 9 ∨ vb = 10) ∧ (wr.alloc (.cells #[.int .i64 1, .int .i64 3, .int .i64 4, .int .i64 5, .int .i64 6, .int .i64 7, .int .i64 9, .int .i64 10] 3)).cell? ⟨wr.heap.size, y, none⟩ = some (.int .i64 vb) := by
  have hb := blk_new wr (.cells eight 3)
  rcases (by omega : y = 0 ∨ y = 1 ∨ y = 2 ∨ y = 3 ∨ y = 4 ∨ y = 5 ∨ y = 6 ∨ y = 7) with rfl | rfl | rfl | rfl | rfl | rfl | rfl | rfl
  · exact ⟨1, by omega, blk_cell hb 0⟩
  · exact ⟨3, by omega, blk_cell hb 1⟩
  · exact ⟨4, by omega, blk_cell hb 2⟩
  · exact ⟨5, by omega, blk_cell hb 3⟩
  · exact ⟨6, by omega, blk_cell hb 4⟩
  · exact ⟨7, by omega, blk_cell hb 5⟩
  · exact ⟨9, by omega, blk_cell hb 6⟩
  · exact ⟨10, by omega, blk_cell hb 7⟩
/-- The loop of made. -/
def MadeAt (w0 : World) (n m go gr gd ga : Nat) (R : Nat) (s3 s9 s10 : Value) (wr : World) : Prop :=
  ∃ (i k : Nat) (A : Option Addr) (c : Nat) (evs : List Evt) (v : Value) (L : List Ent) (D : List (Nat × Aw × List Fd)) (f : Nat → Pl), i + R = n ∧ s10 = .int .i64 (i : Int) ∧ s9 = .int .i64 (k : Int) ∧ s3 = .slice A evs.length c ∧
    Rw w0 wr m A c evs v L ∧ RowA L ∧ Pls wr w0.heap.size go gr gd ga f ∧ Sane k (evs.map Evt.sp) D f ∧ Sim (evs.map Evt.sp) D (absE L) ∧ evs.length ≤ i
set_option maxHeartbeats 16000000 in
set_option maxRecDepth 100000 in
theorem made_calls {a0 : Option Addr} {n c0 : Nat} {xs : List Oc} (w : World) (hA : Arg ocl w a0 n xs) (hn : n ≤ 40) (hlie : ∀ x ∈ xs, x.lie = false) :
    Calls Tryd.prog 29 #[.slice a0 n c0] w fun e w' => ∃ (A : Option Addr) (c : Nat) (evs : List Evt), e = .returned (.slice A evs.length c) ∧ w'.ownsRow w.heap.size 59 20 (.slice A evs.length c) evs.length (evs.flatMap Evt.c) ∧ (∀ e ∈ evs, EvOk w' e) ∧
      (∃ D en, Sim (evs.map Evt.sp) D en) ∧ nC (evs.map Evt.sp) ≤ 9 ∧ (∀ x ∈ evs, isC keyA x.sp = true → RqOk x.sp.r) ∧ evs.length ≤ 40 ∧ Below w.heap.size w w' := by
  have HA := Aside0.mk hA
  have HN := Aside0.mk hn
  have HLI := Aside0.mk hlie
  have hn40 : (n : Int) ≤ 40 := by omega
  clear hA hn hlie
  go_enter Tryd.func29, Tryd.ntmps29
  go_wp2
  go_loopg [3, 9, 10] n (fun R s3 s9 s10 wr => MadeAt w n w.heap.size (w.heap.size + 1) (w.heap.size + 1 + 1) (w.heap.size + 1 + 1 + 1) (w.heap.size + 1 + 1 + 1 + 1) R s3 s9 s10 wr)
  case atStart =>
    have p1 := blk_new w (.cells #[.slice none 0 0] 75)
    obtain ⟨w1, e1⟩ : ∃ w1, w1 = w.alloc (.cells #[.slice none 0 0] 75) := ⟨_, rfl⟩
    have b1 : Below w.heap.size w w1 := by rw [e1]; exact below_alloc (Below.refl _ _) _
    have s1 : w1.heap.size = w.heap.size + 1 := by rw [e1]; simp
    rw [← e1] at p1 ⊢
    clear e1
    exact ⟨0, 0, none, 0, [], .slice none 0 0, [], [], fun _ => pl0, by omega, rfl, rfl, rfl, start_rw b1 p1 _ _ _ _, .inl rfl, start_pls s1, Sane.start, Sim.nil, Nat.le_refl 0⟩
  case round =>
    obtain ⟨i, k, A, c, evs, v, L, D, f, hi, rfl, rfl, rfl, hrw, hra, hpl, hsa, hsi, hel⟩ := hrel
    have HI := Aside0.mk hi
    have HRW := Aside0.mk hrw
    have HRA := Aside0.mk hra
    have HPL := Aside0.mk hpl
    have HSA := Aside0.mk hsa
    have HSI := Aside0.mk hsi
    have HEL := Aside0.mk hel
    clear hi hrw hra hpl hsa hsi hel
    by_cases hlt : i < n
    · by_cases hk9 : k < 9
      · obtain ⟨x, hx⟩ : ∃ x, xs[i]? = some x := ⟨_, List.getElem?_eq_getElem (by have := HA.out.1; omega)⟩
        obtain ⟨q, off, rfl, hr⟩ := (HA.out.below HRW.out.low).at_ ocl_len i x hx
        have HX := Aside0.mk (List.mem_of_getElem? hx)
        have HR := Aside0.mk (show wr.rangeAt q (off + i * 6) [.int .i64 x.who, .int .i64 x.verb, .string x.data, .bool x.ret, .bool x.forget, .bool x.lie] from hr)
        have r1 : decide ((i : Int) < (n : Int)) = true := decide_eq_true (by omega)
        have r2 : (i : Int) < (n : Int) := by omega
        have r3 : decide ((k : Int) < 9) = true := decide_eq_true (by omega)
        have r4 : (k : Int) < 9 := by omega
        clear hr hx
        go_wp2_with (refine gate_ (.load 67 (.tmp 30)) rfl ?_; refine ev_load_mid (.load 67 (.tmp 30)) rfl rfl 67 (.tmp 30) rfl q (off + i * 6) rfl _ _ HR.out Tryd.underlying67 rfl (by kernel_rfl) ?_)
        refine (within3 _ _).mono ?_
        rintro e_1 w_1 ⟨kk, rfl, hkk, rfl⟩
        have hb := below_alloc (Below.refl wr.heap.size wr) (.cells #[.int .i64 x.who, .int .i64 x.verb, .string x.data, .bool x.ret, .bool x.forget, .bool x.lie] 67)
        have h11 := blk_new wr (.cells #[.int .i64 x.who, .int .i64 x.verb, .string x.data, .bool x.ret, .bool x.forget, .bool x.lie] 67)
        obtain ⟨wx, hwx⟩ : ∃ wx, wx = wr.alloc (.cells #[.int .i64 x.who, .int .i64 x.verb, .string x.data, .bool x.ret, .bool x.forget, .bool x.lie] 67) := ⟨_, rfl⟩
        obtain ⟨g11, hg11⟩ : ∃ g, g = wr.heap.size := ⟨_, rfl⟩
        rw [← hwx] at hb h11 ⊢
        rw [← hg11] at h11 ⊢
        have HRX := Aside0.mk (HRW.out.below hb)
        have HPX := Aside0.mk (HPL.out.below hb)
        have H11 := Aside0.mk h11
        have HKK := Aside0.mk (show kk < 4 by omega)
        have kk4 : (kk : Int) < 4 := by omega
        have kk0 : (0 : Int) ≤ (kk : Int) := by omega
        have HGE := Aside0.mk (show w.heap.size ≤ g11 by rw [hg11]; exact HRW.out.low.size)
        clear hwx hg11 hb h11 hkk HRW HPL HR
        by_cases hop : (f kk).op = 0
        · have copn : wx.cell? ⟨w.heap.size + 1, kk, none⟩ = some (.int .i64 0) := by
            have := (HPX.out.opn.one HKK.out rfl).1
            rw [hop] at this
            exact this
          have HOP := Aside0.mk hop
          clear hop
          go_upto_region 15 with fail
          go_cut [13] from 18 to 113 (fun s13 wy => ∃ vb : Int, s13 = .int .i64 vb ∧ (vb = 1 ∨ vb = 3 ∨ vb = 4 ∨ vb = 5 ∨ vb = 6 ∨ vb = 7 ∨ vb = 9 ∨ vb = 10) ∧ Below wx.heap.size wx wy)
          case first =>
            have cverb : ∀ o, (wx.alloc o).cell? ⟨g11, 1, none⟩ = some (.int .i64 x.verb) := fun o => blk_cell (blk_alloc H11.out o) 1
            go_wp2_with fail
            refine (within7 _ _).mono ?_
            rintro e_1 w_1 ⟨y, rfl, hy, rfl⟩
            obtain ⟨vb, hvb, hcl⟩ := eight_at wx y hy
            have HV := Aside0.mk hvb
            have y8 : (y : Int) < 8 := by omega
            have y0 : (0 : Int) ≤ (y : Int) := by omega
            clear hvb hy
            go_wp2_with fail
            go_meet
            exact ⟨vb, rfl, HV.out, below_alloc (Below.refl _ _) _⟩
          case rest =>
            obtain ⟨vb, rfl, hvb, hb⟩ := hcut
            have HVB := Aside0.mk hvb
            have HRY := Aside0.mk (HRX.out.below hb)
            have HPY := Aside0.mk (HPX.out.below hb)
            have cd : wc.cell? ⟨g11, 2, none⟩ = some (.string x.data) := blk_cell ((hb.block _ (blk_lt H11.out)).trans H11.out) 2
            clear hvb hb HRX HPX H11 copn
            go_upto_if 52 with fail
            go_cut [14] from 18 to 113 (fun s14 wy => ∃ d : ByteArray, s14 = .string d ∧ d.size ≤ 50 ∧ wy = wc)
            case first =>
              by_cases hd : 50 < x.data.size
              · have d1 : decide ((50 : Int) < (x.data.size : Int)) = true := decide_eq_true (by omega)
                have d2 : (50 : Int) < (x.data.size : Int) := by omega
                go_wp2_with fail
                go_meet
                exact ⟨_, rfl, by simp; omega, rfl⟩
              · have d1 : decide ((50 : Int) < (x.data.size : Int)) = false := decide_eq_false (by omega)
                have d2 : ¬ (50 : Int) < (x.data.size : Int) := by omega
                go_wp2_with fail
                go_meet
                exact ⟨_, rfl, by omega, rfl⟩
            case rest =>
              obtain ⟨d, rfl, hd, rfl⟩ := hcut
              have HD := Aside0.mk hd
              clear hd cd
              go_upto_region 19 with fail
              go_cut [14] from 18 to 113 (fun s14 wy => s14 = .string d ∧ ∃ gy : Nat, Pls wy w.heap.size (w.heap.size + 1) (w.heap.size + 1 + 1) (w.heap.size + 1 + 1 + 1) (w.heap.size + 1 + 1 + 1 + 1) (upd4 f kk { f kk with r := mRq vb d, kv := .slice (some ⟨gy, 0, none⟩) 1 1 }) ∧ Rw w wy w.heap.size A c evs v L ∧ wy.heap[gy]? = some (.cells #[.string keyA] 9 (0, 0)))
              case first =>
                obtain ⟨cur, hcur⟩ := HPY.out.req.typ
                have HPZ := Aside0.mk (HPY.out.below (below_alloc (Below.refl _ _) (.cells #[.string keyA] 9)))
                have HRZ := Aside0.mk (HRY.out.below (below_alloc (Below.refl _ _) (.cells #[.string keyA] 9)))
                have HCU := Aside0.mk (blk_alloc hcur (.cells #[.string keyA] 9))
                have HCS := Aside0.mk (show cur.size = 36 by obtain ⟨cu2, g1, g2, _⟩ := HPY.out.req; rw [hcur] at g1; injection g1 with g1; injection g1 with g1; rw [g1]; exact g2)
                clear hcur
                go_wp2_with (refine gate_ (.store 27 (.tmp 60) (.tmp 59)) rfl ?_; refine ev_store_mid (.store 27 (.tmp 60) (.tmp 59)) rfl rfl rfl 27 (.tmp 60) (.tmp 59) rfl (w.heap.size + 1 + 1) (kk * 9) ((mRq vb d).c (.slice (some ⟨wc.heap.size, 0, none⟩) 1 1)) rfl rfl 91 cur HCU.out ?fit (by kernel_rfl) (rq_one _ _ rfl) ?_; (case fit => have := HCS.out; have := HKK.out; show kk * 9 + 9 ≤ cur.size; omega); intro cur2 wz hz1 hz2 hz3 hm; have HZ1 := Aside0.mk hz1; have HZ2 := Aside0.mk hz2; have HZ3 := Aside0.mk hz3; have HZM := Aside0.mk hm; clear hz1 hz2 hz3 hm)
                go_meet
                exact ⟨rfl, wc.heap.size, HPZ.out.setReq HKK.out (mRq vb d) (.slice (some ⟨wc.heap.size, 0, none⟩) 1 1) HOP.out HCU.out HZ1.out HZ2.out HZ3.out HZM.out, HRZ.out.write HZM.out HCU.out (by omega) (by decide), HZM.out.blk (blk_new wc _) (type_ne HCU.out (blk_new wc _) (by decide))⟩
              case rest =>
                obtain ⟨rfl, gy, hpl, hrw, hgy⟩ := hcut
                have HPA := Aside0.mk hpl
                have HRA3 := Aside0.mk hrw
                have HGY := Aside0.mk hgy
                clear hpl hrw hgy HRY HPY
                go_upto_region 20 with fail
                go_cut [14] from 18 to 113 (fun s14 wy => s14 = .string d ∧ Pls wy w.heap.size (w.heap.size + 1) (w.heap.size + 1 + 1) (w.heap.size + 1 + 1 + 1) (w.heap.size + 1 + 1 + 1 + 1) (upd4 f kk { f kk with op := k + 1, r := mRq vb d, kv := .slice (some ⟨gy, 0, none⟩) 1 1, dn := false }) ∧ Rw w wy w.heap.size A c evs v L ∧ wy.heap[gy]? = some (.cells #[.string keyA] 9 (0, 0)))
                case first =>
                  obtain ⟨co1, co2⟩ := HPA.out.opnC HKK.out
                  have hp2 := HPA.out.setOpn HKK.out (k + 1) (fun _ => ⟨gy, by rw [upd_at], HGY.out⟩)
                  rw [show ((k + 1 : Nat) : Int) = (k : Int) + 1 from rfl] at hp2
                  obtain ⟨cn1, cn2⟩ := hp2.donC HKK.out
                  have hp3 := hp2.setDon HKK.out false
                  simp only [upd_upd, upd_at] at hp3
                  have HP3 := Aside0.mk hp3
                  clear hp2 hp3
                  go_wp2_with fail
                  go_meet
                  obtain ⟨c1, t1⟩ := HPA.out.opn.typ
                  obtain ⟨c3, t3⟩ := HPA.out.don.typ
                  have m1 : Mod (fun q => q = w.heap.size + 1) wc (wc.setCell ⟨w.heap.size + 1, kk, none⟩ (.int .i64 ((k : Int) + 1))) := Mod.setCell (S := fun q => q = w.heap.size + 1) (Mod.refl _ _) (p := ⟨w.heap.size + 1, kk, none⟩) (.inl rfl) _
                  have t3b := m1.blk t3 (type_ne t1 t3 (by decide))
                  have m2 : Mod (fun q => q = w.heap.size + 1 + 1 + 1) (wc.setCell ⟨w.heap.size + 1, kk, none⟩ (.int .i64 ((k : Int) + 1))) ((wc.setCell ⟨w.heap.size + 1, kk, none⟩ (.int .i64 ((k : Int) + 1))).setCell ⟨w.heap.size + 1 + 1 + 1, kk, none⟩ (.bool false)) := Mod.setCell (S := fun q => q = w.heap.size + 1 + 1 + 1) (Mod.refl _ _) (p := ⟨w.heap.size + 1 + 1 + 1, kk, none⟩) (.inl rfl) _
                  have hg1 := m1.blk HGY.out (type_ne t1 HGY.out (by decide))
                  exact ⟨rfl, HP3.out, (HRA3.out.write m1 t1 (by omega) (by decide)).write m2 t3b (by omega) (by decide), m2.blk hg1 (type_ne t3b hg1 (by decide))⟩
                case rest =>
                  obtain ⟨rfl, hpl, hrw, hgy⟩ := hcut
                  have HP3 := Aside0.mk hpl
                  have HR3 := Aside0.mk hrw
                  have HGY2 := Aside0.mk hgy
                  have HRC := Aside0.mk (show wc.rangeAt (w.heap.size + 1 + 1) (kk * 9) [.int .i64 vb, .slice (some ⟨gy, 0, none⟩) 1 1, .int .i64 0, .int .i64 0, .int .i64 0, .int .i64 0, .int .u64 1, .bool false, .string d] from by
                    have := hpl.req.range HKK.out
                    simp only [upd_at] at this
                    exact this)
                  have r6 : evs.length ≤ 40 := by have := HEL.out; have := HN.out; omega
                  clear hpl hrw hgy HPA HRA3 HGY
                  go_wp2_with (first | (refine gate_ (.load 27 (.tmp 69)) rfl ?_; refine ev_load_mid (.load 27 (.tmp 69)) rfl rfl 27 (.tmp 69) rfl (w.heap.size + 1 + 1) (kk * 9) rfl _ _ HRC.out Tryd.underlying27 rfl (by kernel_rfl) ?_) | (refine gate_ (.buildSlice 62 1 #[(0, .tmp 71)]) rfl ?_; refine ev_lit (.buildSlice 62 1 #[(0, .tmp 71)]) rfl rfl 1 ([mEv ((k : Int) + 1) (mRq vb d) gy].flatMap Evt.c).toArray 59 ?hrD ?_; (case hrD => (simp only [Evt.c, mEv, List.flatMap_cons, List.flatMap_nil]; first | (go_simp; done) | (go_simp; rfl))); intro gl hgl wl hk hb; have HGL := Aside0.mk hgl; have HBL := Aside0.mk hb; have BL := Aside0.mk hk; have HR4 := Aside0.mk (HR3.out.below hb); clear hgl hk hb) | (refine gate_ (.call { callee := .builtin .append, args := #[.tmp 66, .tmp 72], argTypes := #[62, 62] }) rfl ?_; refine ev_append (.tmp 66) (.tmp 72) 62 59 rfl rfl w.heap.size _ 20 208 Tryd.underlying62 info59 rfl (by decide) (.slice A evs.length c) evs.length (evs.flatMap Evt.c) rfl HR4.out.row ⟨gl, 0, none⟩ 1 1 ([mEv ((k : Int) + 1) (mRq vb d) gy].flatMap Evt.c) rfl (flat_length Evt.c 20 evt_len _) ?nkB (flat_one evt_one _) ?nlB ?nmB ?noB ?_; (case nkB => exact fun j u hu => by rw [add_plain, blk_cell BL.out j, List.getElem?_toArray]; exact hu); (case nlB => unfold maxLen; omega); (case nmB => omega); (case noB => exact HR4.out.low.size); intro vB wB1 ho hm _ _; rw [← List.flatMap_append] at ho; obtain ⟨AB, cB, rfl⟩ := own_slice ho; have HO := Aside0.mk ho; have HM := Aside0.mk hm; clear ho hm))
                  go_roundg (n - (i + 1))
                  case measure => have := HI.out; omega
                  case rel =>
                    have e2 : evs.length + 1 = (evs ++ [mEv ((k : Int) + 1) (mRq vb d) gy]).length := by rw [List.length_append]; rfl
                    have ho := HO.out
                    rw [e2] at ho
                    rw [e2]
                    have hsp : (evs ++ [mEv ((k : Int) + 1) (mRq vb d) gy]).map Evt.sp = evs.map Evt.sp ++ [mkC ((k : Int) + 1) (mRq vb d)] := by rw [List.map_append]; rfl
                    exact ⟨i + 1, k + 1, AB, cB, evs ++ [mEv ((k : Int) + 1) (mRq vb d) gy], v, L, D, upd4 f kk { f kk with op := k + 1, r := mRq vb d, kv := .slice (some ⟨gy, 0, none⟩) 1 1, dn := false }, by have := HI.out; omega, by go_num, by go_num, rfl, HR4.out.push HM.out ho (fun e he => by
                      rw [List.mem_singleton.1 he]
                      exact mEv_ok ((HBL.out.block _ (blk_lt HGY2.out)).trans HGY2.out) (mRq_ok HVB.out HD.out).verb.2.2), HRA.out, (HP3.out.below HBL.out).push HR4.out.row HM.out, by rw [hsp]; exact HSA.out.called hk9 HKK.out { f kk with op := k + 1, r := mRq vb d, kv := .slice (some ⟨gy, 0, none⟩) 1 1, dn := false } rfl rfl (mRq_ok HVB.out HD.out), by rw [hsp]; exact HSI.out.cl HSA.out (mRq vb d), by rw [List.length_append]; exact Nat.add_le_add_right HEL.out 1⟩
        · have HOP := Aside0.mk hop
          obtain ⟨tt, htt⟩ : ∃ t, t = (f kk).op := ⟨_, rfl⟩
          have HTT := Aside0.mk htt
          have copn : wx.cell? ⟨w.heap.size + 1, kk, none⟩ = some (.int .i64 (tt : Int)) := by rw [htt]; exact (HPX.out.opnC HKK.out).1
          have ob : ((tt : Int) == 0) = false := by rw [htt]; simp; exact hop
          have ob2 : ¬ (tt : Int) = 0 := by rw [htt]; omega
          obtain ⟨gy, hkv, hgy⟩ := HPX.out.key kk HKK.out hop
          have HKV := Aside0.mk hkv
          have HGY := Aside0.mk hgy
          clear hop htt hkv hgy
          cases hdn : (f kk).dn
          · have HDN := Aside0.mk hdn
            have cdon : wx.cell? ⟨w.heap.size + 1 + 1 + 1, kk, none⟩ = some (.bool false) := by rw [← hdn]; exact (HPX.out.donC HKK.out).1
            have cfor : wx.cell? ⟨g11, 4, none⟩ = some (.bool x.forget) := blk_cell H11.out 4
            clear hdn
            go_upto_if 80 with fail
            go_cut [12] from 18 to 113 (fun s12 wy => s12 = .int .i64 (kk : Int) ∧ ∃ (v1 : Value) (L1 : List Ent), (L1 = L ∨ L1 = []) ∧ RowA L1 ∧ Pls wy w.heap.size (w.heap.size + 1) (w.heap.size + 1 + 1) (w.heap.size + 1 + 1 + 1) (w.heap.size + 1 + 1 + 1 + 1) f ∧ Rw w wy w.heap.size A c evs v1 L1 ∧ wy.heap[gy]? = some (.cells #[.string keyA] 9 (0, 0)))
            case first =>
              cases hf : x.forget
              · rw [hf] at cfor
                go_wp2_with fail
                go_meet
                exact ⟨rfl, v, L, .inl rfl, HRA.out, HPX.out, HRX.out, HGY.out⟩
              · rw [hf] at cfor
                go_wp2_with fail
                refine (fgt_calls HRX.out HRA.out).mono ?_
                rintro e_1 w_1 ⟨bb, v1, rfl, hr1, hm⟩
                have HM := Aside0.mk hm
                have HR1 := Aside0.mk hr1
                clear hm hr1
                go_wp2_with fail
                go_meet
                exact ⟨rfl, v1, [], .inr rfl, .inl rfl, HPX.out.write HM.out HRX.out.rm.blk (by decide), HR1.out, HM.out.blk HGY.out (type_ne HRX.out.rm.blk HGY.out (by decide))⟩
            case rest =>
              obtain ⟨rfl, v1, L1, hl1, hra1, hpl1, hrw1, hgy1⟩ := hcut
              have HL1 := Aside0.mk hl1
              have HRA1 := Aside0.mk hra1
              have HPL1 := Aside0.mk hpl1
              have HRW1 := Aside0.mk hrw1
              have HGY1 := Aside0.mk hgy1
              have HRC := Aside0.mk (show wc.rangeAt (w.heap.size + 1 + 1) (kk * 9) ((f kk).r.c (.slice (some ⟨gy, 0, none⟩) 1 1)).toList from by
                have := hpl1.req.range HKK.out
                rw [← HKV.out]
                exact this)
              obtain ⟨cur, hcur⟩ := hpl1.ans.typ
              have HCU := Aside0.mk hcur
              have HCS := Aside0.mk (show cur.size = 36 by obtain ⟨cu2, g1, g2, _⟩ := hpl1.ans; rw [hcur] at g1; injection g1 with g1; injection g1 with g1; rw [g1]; exact g2)
              clear hl1 hra1 hpl1 hrw1 hgy1 hcur HPX HRX HGY cfor cdon copn
              go_wp2_with (refine gate_ (.load 27 (.tmp 87)) rfl ?_; refine ev_load_mid (.load 27 (.tmp 87)) rfl rfl 27 (.tmp 87) rfl (w.heap.size + 1 + 1) (kk * 9) rfl _ _ HRC.out Tryd.underlying27 rfl (by kernel_rfl) ?_; rw [Array.toArray_toList])
              have hmr := HSA.out.req kk HKK.out HOP.out
              refine (rap_calls HRW1.out HRA1.out (f kk).r hmr.verb hmr.exp hmr.data hmr.delta gy HGY1.out).mono ?_
              clear hmr
              rintro e_1 w_1 ⟨aw, vA, vc, vs, v2, L2, rfl, ha, hal, hr2, hra2, hdo, _, hm⟩
              have HAA := Aside0.mk ha
              have HAL := Aside0.mk hal
              have HR2 := Aside0.mk hr2
              have HRA2 := Aside0.mk hra2
              have HDO := Aside0.mk hdo
              have HM := Aside0.mk hm
              have HP2 := Aside0.mk (HPL1.out.write hm HRW1.out.rm.blk (by decide))
              have HCV := Aside0.mk (hm.blk HCU.out (type_ne HRW1.out.rm.blk HCU.out (by decide)))
              clear ha hal hr2 hra2 hdo hm
              go_wp2_with (refine gate_ (.store 32 (.tmp 90) (.tmp 89)) rfl ?_; refine ev_store_mid (.store 32 (.tmp 90) (.tmp 89)) rfl rfl rfl 32 (.tmp 90) (.tmp 89) rfl (w.heap.size + 1 + 1 + 1 + 1) (kk * 9) (aw.c (.slice vA vs.length vc)) rfl rfl 93 cur HCV.out ?fit (by kernel_rfl) (aw_one aw _ rfl) ?_; (case fit => have := HCS.out; have := HKK.out; show kk * 9 + 9 ≤ cur.size; omega); intro cur2 wz hz1 hz2 hz3 hm; have HP3 := Aside0.mk (HP2.out.setAns HKK.out aw vA vc vs ⟨HAA.out, HAL.out⟩ HCV.out hz1 hz2 hz3 hm); have HR3 := Aside0.mk (HR2.out.write hm HCV.out (by omega) (by decide)); obtain ⟨cn1, cn2⟩ := HP3.out.donC HKK.out; have hp4 := HP3.out.setDon HKK.out true; simp only [upd_upd, upd_at] at hp4; have HP4 := Aside0.mk hp4; obtain ⟨c3, t3⟩ := HP3.out.don.typ; have HT3 := Aside0.mk t3; clear hz1 hz2 hz3 hm hp4 t3)
              go_roundg (n - (i + 1))
              case measure => have := HI.out; omega
              case rel =>
                have m3 : Mod (fun q => q = w.heap.size + 1 + 1 + 1) wz (wz.setCell ⟨w.heap.size + 1 + 1 + 1, kk, none⟩ (.bool true)) := Mod.setCell (S := fun q => q = w.heap.size + 1 + 1 + 1) (Mod.refl _ _) (p := ⟨w.heap.size + 1 + 1 + 1, kk, none⟩) (.inl rfl) _
                exact ⟨i + 1, k, A, c, evs, v2, L2, D ++ [((f kk).op - 1, aw, vs)], upd4 f kk { f kk with dn := true, aw := aw, vA := vA, vc := vc, vs := vs }, by have := HI.out; omega, by go_num, rfl, rfl, HR3.out.write m3 HT3.out (by omega) (by decide), HRA2.out, HP4.out, HSA.out.done HKK.out HOP.out HDN.out { f kk with dn := true, aw := aw, vA := vA, vc := vc, vs := vs } rfl rfl rfl, HSI.out.did HSA.out HKK.out HOP.out HDN.out (HL1.out.elim (fun e => .inl (by rw [e])) (fun e => .inr (by rw [e]; rfl))) HDO.out, by have := HEL.out; omega⟩
          · have HDN := Aside0.mk hdn
            have cdon : wx.cell? ⟨w.heap.size + 1 + 1 + 1, kk, none⟩ = some (.bool true) := by rw [← hdn]; exact (HPX.out.donC HKK.out).1
            have cret : wx.cell? ⟨g11, 3, none⟩ = some (.bool x.ret) := blk_cell H11.out 3
            clear hdn
            cases hf : x.ret
            · rw [hf] at cret
              go_wp2_with fail
              go_roundg (n - (i + 1))
              case measure => have := HI.out; omega
              case rel => exact ⟨i + 1, k, A, c, evs, v, L, D, f, by have := HI.out; omega, by go_num, rfl, rfl, HRX.out, HRA.out, HPX.out, HSA.out, HSI.out, by have := HEL.out; omega⟩
            · rw [hf] at cret
              have HRC := Aside0.mk (show wx.rangeAt (w.heap.size + 1 + 1 + 1 + 1) (kk * 9) [.int .i64 (f kk).aw.kind, .slice (f kk).vA (f kk).vs.length (f kk).vc, .bool (f kk).aw.gets, .int .u64 (f kk).aw.num, .string (f kk).aw.text, .int .i64 (f kk).aw.s0, .int .i64 (f kk).aw.s1, .int .i64 (f kk).aw.s2, .int .i64 (f kk).aw.s3] from HPX.out.ans.range HKK.out)
              have clie : ∀ o, (wx.alloc o).cell? ⟨g11, 5, none⟩ = some (.bool false) := fun o => by
                have := blk_cell (blk_alloc H11.out o) 5
                rw [this, ← HLI.out x HX.out]
                rfl
              have copn2 : ∀ o, (wx.alloc o).cell? ⟨w.heap.size + 1, kk, none⟩ = some (.int .i64 (tt : Int)) := fun o => cell_low copn (below_alloc (Below.refl _ _) o)
              go_upto_region 30 with (refine gate_ (.load 32 (.tmp 96)) rfl ?_; refine ev_load_mid (.load 32 (.tmp 96)) rfl rfl 32 (.tmp 96) rfl (w.heap.size + 1 + 1 + 1 + 1) (kk * 9) rfl _ _ HRC.out Tryd.underlying32 rfl (by kernel_rfl) ?_)
              obtain ⟨wv, hwv⟩ : ∃ wv, wv = wx.alloc (.cells #[.int .i64 (f kk).aw.kind, .slice (f kk).vA (f kk).vs.length (f kk).vc, .bool (f kk).aw.gets, .int .u64 (f kk).aw.num, .string (f kk).aw.text, .int .i64 (f kk).aw.s0, .int .i64 (f kk).aw.s1, .int .i64 (f kk).aw.s2, .int .i64 (f kk).aw.s3] 32) := ⟨_, rfl⟩
              obtain ⟨g15, hg15⟩ : ∃ g, g = wx.heap.size := ⟨_, rfl⟩
              rw [← hwv, ← hg15]
              have hb : Below wx.heap.size wx wv := by rw [hwv]; exact below_alloc (Below.refl _ _) _
              have h15 : wv.heap[g15]? = some (.cells #[.int .i64 (f kk).aw.kind, .slice (f kk).vA (f kk).vs.length (f kk).vc, .bool (f kk).aw.gets, .int .u64 (f kk).aw.num, .string (f kk).aw.text, .int .i64 (f kk).aw.s0, .int .i64 (f kk).aw.s1, .int .i64 (f kk).aw.s2, .int .i64 (f kk).aw.s3] 32 (0, 0)) := by rw [hwv, hg15]; exact blk_new wx _
              have copv : wv.cell? ⟨w.heap.size + 1, kk, none⟩ = some (.int .i64 (tt : Int)) := cell_low copn hb
              have HRV := Aside0.mk (HRX.out.below hb)
              have HPV := Aside0.mk (HPX.out.below hb)
              have a0 : wv.cell? ⟨g15, 0, none⟩ = some (.int .i64 (f kk).aw.kind) := blk_cell h15 0
              have a1 : wv.cell? ⟨g15, 1, none⟩ = some (.slice (f kk).vA (f kk).vs.length (f kk).vc) := blk_cell h15 1
              have a2 : wv.cell? ⟨g15, 2, none⟩ = some (.bool (f kk).aw.gets) := blk_cell h15 2
              have a3 : wv.cell? ⟨g15, 3, none⟩ = some (.int .u64 (f kk).aw.num) := blk_cell h15 3
              have a4 : wv.cell? ⟨g15, 4, none⟩ = some (.string (f kk).aw.text) := blk_cell h15 4
              have a5 : wv.cell? ⟨g15, 5, none⟩ = some (.int .i64 (f kk).aw.s0) := blk_cell h15 5
              have a6 : wv.cell? ⟨g15, 6, none⟩ = some (.int .i64 (f kk).aw.s1) := blk_cell h15 6
              have a7 : wv.cell? ⟨g15, 7, none⟩ = some (.int .i64 (f kk).aw.s2) := blk_cell h15 7
              have a8 : wv.cell? ⟨g15, 8, none⟩ = some (.int .i64 (f kk).aw.s3) := blk_cell h15 8
              have hbw : Below wv.heap.size wv ((wv.alloc (.cells #[.int .i64 2, .int .i64 (tt : Int), .int .i64 0, .slice none 0 0, .int .i64 0, .int .i64 0, .int .i64 0, .int .i64 0, .int .u64 0, .bool false, .string ⟨#[]⟩, .int .i64 (f kk).aw.kind, .slice (f kk).vA (f kk).vs.length (f kk).vc, .bool (f kk).aw.gets, .int .u64 (f kk).aw.num, .string (f kk).aw.text, .int .i64 (f kk).aw.s0, .int .i64 (f kk).aw.s1, .int .i64 (f kk).aw.s2, .int .i64 (f kk).aw.s3] 59)).drew) := Below.drew (below_alloc (Below.refl _ _) _)
              have E1 := Aside0.mk (HRV.out.below hbw)
              have E2 := Aside0.mk (HPV.out.below hbw)
              have E3 := Aside0.mk (show ((wv.alloc (.cells #[.int .i64 2, .int .i64 (tt : Int), .int .i64 0, .slice none 0 0, .int .i64 0, .int .i64 0, .int .i64 0, .int .i64 0, .int .u64 0, .bool false, .string ⟨#[]⟩, .int .i64 (f kk).aw.kind, .slice (f kk).vA (f kk).vs.length (f kk).vc, .bool (f kk).aw.gets, .int .u64 (f kk).aw.num, .string (f kk).aw.text, .int .i64 (f kk).aw.s0, .int .i64 (f kk).aw.s1, .int .i64 (f kk).aw.s2, .int .i64 (f kk).aw.s3] 59)).drew).heap[wv.heap.size]? = some (.cells ([bEv (tt : Int) (f kk).aw (f kk).vA (f kk).vc (f kk).vs].flatMap Evt.c).toArray 59 (0, 0)) from blk_new wv _)
              have E4 := Aside0.mk hbw
              have e1 := Aside0.mk (show ([bEv (tt : Int) (f kk).aw (f kk).vA (f kk).vc (f kk).vs].flatMap Evt.c).length = 1 * 20 from rfl)
              have e2 := Aside0.mk (show ∀ j u, ([bEv (tt : Int) (f kk).aw (f kk).vA (f kk).vc (f kk).vs].flatMap Evt.c)[j]? = some u → ((wv.alloc (.cells #[.int .i64 2, .int .i64 (tt : Int), .int .i64 0, .slice none 0 0, .int .i64 0, .int .i64 0, .int .i64 0, .int .i64 0, .int .u64 0, .bool false, .string ⟨#[]⟩, .int .i64 (f kk).aw.kind, .slice (f kk).vA (f kk).vs.length (f kk).vc, .bool (f kk).aw.gets, .int .u64 (f kk).aw.num, .string (f kk).aw.text, .int .i64 (f kk).aw.s0, .int .i64 (f kk).aw.s1, .int .i64 (f kk).aw.s2, .int .i64 (f kk).aw.s3] 59)).drew).cell? ((⟨wv.heap.size, 0, none⟩ : Addr).add j) = some u from fun j u hu => by rw [add_plain, blk_cell E3.out j, List.getElem?_toArray]; exact hu)
              have e3 := Aside0.mk (show evs.length + 1 ≤ maxLen by have := HEL.out; have := HN.out; unfold maxLen; omega)
              have e4 := Aside0.mk (show (evs.length + 1) * 208 ≤ 140737488355328 by have := HEL.out; have := HN.out; omega)
              have e5 := Aside0.mk (show w.heap.size ≤ ((wv.alloc (.cells #[.int .i64 2, .int .i64 (tt : Int), .int .i64 0, .slice none 0 0, .int .i64 0, .int .i64 0, .int .i64 0, .int .i64 0, .int .u64 0, .bool false, .string ⟨#[]⟩, .int .i64 (f kk).aw.kind, .slice (f kk).vA (f kk).vs.length (f kk).vc, .bool (f kk).aw.gets, .int .u64 (f kk).aw.num, .string (f kk).aw.text, .int .i64 (f kk).aw.s0, .int .i64 (f kk).aw.s1, .int .i64 (f kk).aw.s2, .int .i64 (f kk).aw.s3] 59)).drew).heap.size from E1.out.low.size)
              clear hwv hg15 hb h15 hbw copn copn2 clie cret cdon HRX HPX H11 HRC hf
              go_region_law (refine st_append (W := ((wv.alloc (.cells #[.int .i64 2, .int .i64 (tt : Int), .int .i64 0, .slice none 0 0, .int .i64 0, .int .i64 0, .int .i64 0, .int .i64 0, .int .u64 0, .bool false, .string ⟨#[]⟩, .int .i64 (f kk).aw.kind, .slice (f kk).vA (f kk).vs.length (f kk).vc, .bool (f kk).aw.gets, .int .u64 (f kk).aw.num, .string (f kk).aw.text, .int .i64 (f kk).aw.s0, .int .i64 (f kk).aw.s1, .int .i64 (f kk).aw.s2, .int .i64 (f kk).aw.s3] 59)).drew)) (.tmp 104) (.tmp 110) 62 59 rfl rfl w.heap.size _ 20 208 Tryd.underlying62 info59 rfl (by decide) (.slice A evs.length c) evs.length (evs.flatMap Evt.c) rfl E1.out.row ⟨wv.heap.size, 0, none⟩ 1 1 ([bEv (tt : Int) (f kk).aw (f kk).vA (f kk).vc (f kk).vs].flatMap Evt.c) rfl e1.out e2.out (flat_one evt_one _) e3.out e4.out e5.out ?_; intro v1 w1 ho1 hm1 _ _; rw [← List.flatMap_append] at ho1; obtain ⟨A2, c2, rfl⟩ := own_slice ho1; have J1 := Aside0.mk ho1; have J2 := Aside0.mk hm1; have HP1 := Aside0.mk (E2.out.push E1.out.row hm1); clear ho1 hm1)
              all_goals
                obtain ⟨co1, co2⟩ := HP1.out.opnC HKK.out
                go_wp2_with fail
                go_roundg (n - (i + 1))
                case measure => have := HI.out; omega
                case rel =>
                  have e6 : evs.length + 1 = (evs ++ [bEv (tt : Int) (f kk).aw (f kk).vA (f kk).vc (f kk).vs]).length := by rw [List.length_append]; rfl
                  have ho := J1.out
                  rw [e6] at ho
                  rw [e6]
                  have hsp : (evs ++ [bEv (tt : Int) (f kk).aw (f kk).vA (f kk).vc (f kk).vs]).map Evt.sp = evs.map Evt.sp ++ [bSp (tt : Int) (f kk).aw (f kk).vs] := by rw [List.map_append]; rfl
                  have hv := HPV.out.val kk HKK.out
                  have hr := E1.out.push J2.out ho (fun e he => by rw [List.mem_singleton.1 he]; exact bEv_ok2 (hv.1.below E4.out) hv.2)
                  have hp0 := HP1.out.setOpn HKK.out 0 (fun h => absurd rfl h)
                  obtain ⟨c9, t9⟩ := HP1.out.opn.typ
                  have hm9 := Mod.setCell (S := fun q => q = w.heap.size + 1) (Mod.refl _ w1) (p := ⟨w.heap.size + 1, kk, none⟩) (.inl rfl) (.int .i64 0)
                  have hbk := HSI.out.bk HSA.out HKK.out HOP.out HDN.out
                  rw [← HTT.out] at hbk
                  exact ⟨i + 1, k, A2, c2, evs ++ [bEv (tt : Int) (f kk).aw (f kk).vA (f kk).vc (f kk).vs], v, L, D, upd4 f kk { f kk with op := 0 }, by have := HI.out; omega, by go_num, rfl, rfl, hr.write hm9 t9 (by omega) (by decide), HRA.out, hp0, by rw [hsp]; exact HSA.out.back _ rfl _ _ _, by rw [hsp]; exact hbk, by rw [List.length_append]; exact Nat.add_le_add_right HEL.out 1⟩
      · have r1 : decide ((i : Int) < (n : Int)) = true := decide_eq_true (by omega)
        have r2 : (i : Int) < (n : Int) := by omega
        have r3 : decide ((k : Int) < 9) = false := decide_eq_false (by omega)
        have r4 : ¬ (k : Int) < 9 := by omega
        go_wp2
        go_ret
        exact ⟨A, c, evs, rfl, HRW.out.row, HRW.out.evs, ⟨D, _, HSI.out⟩, by rw [HSA.out.calls]; exact HSA.out.few, fun y hy => HSA.out.rqs _ (List.mem_map_of_mem hy), by have := HEL.out; have := HN.out; have := HI.out; omega, HRW.out.low⟩
    · have r1 : decide ((i : Int) < (n : Int)) = false := decide_eq_false (by omega)
      have r2 : ¬ (i : Int) < (n : Int) := by omega
      go_wp2
      go_ret
      exact ⟨A, c, evs, rfl, HRW.out.row, HRW.out.evs, ⟨D, _, HSI.out⟩, by rw [HSA.out.calls]; exact HSA.out.few, fun y hy => HSA.out.rqs _ (List.mem_map_of_mem hy), by have := HEL.out; have := HN.out; have := HI.out; omega, HRW.out.low⟩
end Go.Proofs.YtepklobkppdliaaDoor.Hs
