/- The model: ModelPlays, the walk. -/
import Derived.Test.YtepklobkppdliaaDoorUMp6
import Derived.Test.YtepklobkppdliaaDoorUMk34
import Derived.Deep.LoopGhost
import Derived.Deep.CutRange
import Derived.Deep.DeepCutAuto
namespace Go.Proofs.YtepklobkppdliaaDoor.Mp
open Go.RowKit Go.Proofs.YtepklobkppdliaaDoorW.PrintWords Go.Proofs.YtepklobkppdliaaDoorW.PrintLast Go.Proofs.YtepklobkppdliaaDoorW.PrintMore Go.Proofs.YtepklobkppdliaaDoor.Lib Go.Proofs.YtepklobkppdliaaDoor.Open Go.Proofs.YtepklobkppdliaaDoor.Md
open Go.Proofs.YtepklobkppdliaaDoor.Rm (Rm)
/-- Both models, alike. -/
structure Both (w0 w : World) (g m i : Nat) (b n : Nat) (f : ByteArray → Option Ent) (v : Value) (L : List Ent) : Prop where
  md : Md w g b n f
  rm : Rm w w0.heap.size m v L
  rel : Rel f L
  few : n ≤ i ∧ L.length ≤ i
  low : Below w0.heap.size w0 w
  ge : w0.heap.size ≤ g ∧ w0.heap.size ≤ b
theorem Both.below {w0 w W : World} {g m i b n : Nat} {f : ByteArray → Option Ent} {v : Value} {L : List Ent} (h : Both w0 w g m i b n f v L) (hb : Below w.heap.size w W) : Both w0 W g m i b n f v L :=
  ⟨h.md.below hb, h.rm.below hb, h.rel, h.few, below_then h.low h.low.size hb, h.ge⟩
theorem Both.more {w0 w : World} {g m i j b n : Nat} {f : ByteArray → Option Ent} {v : Value} {L : List Ent} (h : Both w0 w g m i b n f v L) (hj : i ≤ j) : Both w0 w g m j b n f v L :=
  ⟨h.md, h.rm, h.rel, ⟨Nat.le_trans h.few.1 hj, Nat.le_trans h.few.2 hj⟩, h.low, h.ge⟩
def PlayAt (w0 : World) (n g m : Nat) (R : Nat) (s5 : Value) (wr : World) : Prop :=
  ∃ (i b k : Nat) (f : ByteArray → Option Ent) (v : Value) (L : List Ent), i + R = n ∧ s5 = .int .i64 (i : Int) ∧ i ≤ 60 ∧ Both w0 wr g m i b k f v L
theorem ask_rq (x : Md.Ask) : ∀ j u, ((x.r.c (.slice x.kA x.ks.length x.kc)).toList)[j]? = some u → x.c[2 + j]? = some u := by
  intro j u hu
  match j with
  | 0 | 1 | 2 | 3 | 4 | 5 | 6 | 7 | 8 => exact hu
  | j + 9 => simp [Rq.c] at hu
set_option maxHeartbeats 16000000 in
set_option maxRecDepth 100000 in
theorem plays_calls {a0 : Option Addr} {n c0 : Nat} {as_ : List Md.Ask} (w : World) (hP : Pow w) (hA : Asks w a0 n as_) :
    Calls Tryd.prog 13 #[.slice a0 n c0] w fun e w' => e = .returned (.bool true) ∧ Below w.heap.size w w' := by
  have HP := Aside0.mk hP
  have HA := Aside0.mk hA
  have hn63 : (n : Int) ≤ 9223372036854775807 := by have := hA.2.1; omega
  clear hP hA
  go_enter Tryd.func13, Tryd.ntmps13
  go_wp2_with fail
  refine (new_calls _).mono ?_
  rintro e_0 w_0 ⟨g, b, rfl, hmd, hg, hb, hbw⟩
  have HMD := Aside0.mk hmd
  have HG := Aside0.mk (And.intro hg hb)
  have HBW := Aside0.mk hbw
  clear hmd hg hb hbw
  go_wp2_with fail
  go_loopg [5] n (fun R s5 wr => PlayAt w n g w_0.heap.size R s5 wr)
  case atStart =>
    exact ⟨0, b, 0, fun _ => none, .slice none 0 0, [], by omega, rfl, by omega, ⟨HMD.out.below (below_alloc (Below.refl _ _) _), ⟨blk_new w_0 _, HBW.out.size, own_nil _ _ _ _⟩, Rel.start, ⟨Nat.le_refl 0, Nat.le_refl 0⟩, below_step HBW.out (below_alloc (Below.refl _ _) _), HG.out⟩⟩
  case round =>
    obtain ⟨i, b1, k, f, v, L, hi, rfl, hi60, hbo⟩ := hrel
    have HI := Aside0.mk hi
    have HBO := Aside0.mk hbo
    clear hi hbo HMD HG
    by_cases hlt : i < n
    · by_cases hk9 : i < 60
      · obtain ⟨x, hx⟩ : ∃ x, as_[i]? = some x := ⟨_, List.getElem?_eq_getElem (by have := HA.out.1; omega)⟩
        obtain ⟨q, off, rfl, hr⟩ := HA.out.2.2.1 (by omega)
        have HX := Aside0.mk (HA.out.2.2.2 x (List.mem_of_getElem? hx))
        have HR := Aside0.mk (show w.rangeAt q (off + i * 13) [.bool x.lost, .string x.key, .int .i64 x.r.verb, .slice x.kA x.ks.length x.kc, .int .i64 x.r.fl, .int .i64 x.r.exp, .int .i64 x.r.bytes, .int .i64 x.r.cas, .int .u64 x.r.delta, .bool x.r.quiet, .string x.r.data, .int .i64 x.now, .int .i64 x.ver] from hr i x hx)
        have r1 : decide ((i : Int) < (n : Int)) = true := decide_eq_true (by omega)
        have r2 : (i : Int) < (n : Int) := by omega
        have r3 : decide ((i : Int) < 60) = true := decide_eq_true (by omega)
        have r4 : (i : Int) < 60 := by omega
        have HRW := Aside0.mk (show wr.rangeAt q (off + i * 13) [.bool x.lost, .string x.key, .int .i64 x.r.verb, .slice x.kA x.ks.length x.kc, .int .i64 x.r.fl, .int .i64 x.r.exp, .int .i64 x.r.bytes, .int .i64 x.r.cas, .int .u64 x.r.delta, .bool x.r.quiet, .string x.r.data, .int .i64 x.now, .int .i64 x.ver] from fun j u hu => pw_cell_below HBO.out.low (HR.out j u hu))
        clear hr hx
        go_wp2_with (first | (refine gate_ (.load 53 (.tmp 26)) rfl ?_; refine ev_load_mid (.load 53 (.tmp 26)) rfl rfl 53 (.tmp 26) rfl q (off + i * 13) rfl _ _ HRW.out Tryd.underlying53 rfl (by kernel_rfl) ?_))
        have hb6 := below_alloc (Below.refl wr.heap.size wr) (.cells x.c 53)
        refine (light_calls x _ ((HX.out.1.below HBO.out.low).below hb6) (by have := HX.out.2.2; omega)).mono ?_
        rintro e_1 w_1 ⟨rfl, hb⟩
        have h6 := (hb.block _ (blk_lt (blk_new wr (.cells x.c 53)))).trans (blk_new wr (.cells x.c 53))
        have HB1 := Aside0.mk ((HBO.out.below hb6).below hb)
        obtain ⟨g6, hg6⟩ : ∃ g6, g6 = wr.heap.size := ⟨_, rfl⟩
        rw [← hg6] at h6 ⊢
        have H6 := Aside0.mk h6
        clear hb6 hb h6 hg6 HRW
        by_cases hli : lightSum x < 1000
        · have HLI := Aside0.mk hli
          rw [decide_eq_true hli]
          clear hli
          go_wp2_with fail
          refine (twin_calls g b1 k f w_1 HB1.out.md (by have := HB1.out.few.1; unfold maxLen; omega)).mono ?_
          rintro e_2 w_2 ⟨g2, b2, rfl, hmd2, hg2, hb2, hb⟩
          have HT := Aside0.mk hmd2
          have HTG := Aside0.mk (And.intro (Nat.le_trans HB1.out.low.size hg2) (Nat.le_trans HB1.out.low.size hb2))
          have HTN := Aside0.mk (show g2 ≠ g ∧ g2 ≠ b1 ∧ g2 ≠ w_0.heap.size ∧ b2 ≠ g ∧ b2 ≠ b1 ∧ b2 ≠ w_0.heap.size from by
            have h1 := HB1.out.md.lt
            have h2 := HB1.out.rm.lt
            omega)
          have HB2 := Aside0.mk (HB1.out.below hb)
          have H6b := Aside0.mk ((hb.block _ (blk_lt H6.out)).trans H6.out)
          clear hmd2 hg2 hb2 hb HB1 H6
          go_upto_region 10 with fail
          go_cut [8] from 14 to 86 (fun s8 wx => ∃ (A8 : Option Addr) (c8 : Nat), s8 = .slice A8 L.length c8 ∧ wx.ownsRow w_2.heap.size 38 5 (.slice A8 L.length c8) L.length (L.flatMap Rm.ecl) ∧ Below w_2.heap.size w_2 wx)
          case first =>
            have hrm := HB2.out.rm
            have hlen := HB2.out.few.2
            rcases hrm.row.2 with ⟨rfl, hz⟩ | ⟨gv, cv, cur, rfl, _, _, _⟩
            · have c4 : ∀ o, (w_2.alloc o).cell? ⟨w_0.heap.size, 0, none⟩ = some (.slice none 0 0) := fun o => blk_cell (blk_alloc hrm.blk o) 0
              have HZ := Aside0.mk hz
              have HLZ := Aside0.mk (show L = [] from List.length_eq_zero_iff.1 hz)
              clear hz hrm
              go_wp2_with fail
              go_meet
              exact ⟨_, _, by rw [HZ.out], by rw [HLZ.out]; exact own_empty (Nat.le_refl _) (blk_new w_2 _), below_alloc (Below.refl _ _) _⟩
            · have c4 : ∀ o, (w_2.alloc o).cell? ⟨w_0.heap.size, 0, none⟩ = some (.slice (some ⟨gv, 0, none⟩) L.length cv) := fun o => blk_cell (blk_alloc hrm.blk o) 0
              have q1 := Aside0.mk (Rm.ecls_len L)
              have q2 := Aside0.mk (news_of_own (pw_own_below hrm.row (below_alloc (Below.refl w_2.heap.size w_2) (.cells #[] 38))))
              have q3 := Aside0.mk (show 0 + L.length ≤ maxLen by unfold maxLen; omega)
              have q4 := Aside0.mk (show (0 + L.length) * 56 ≤ 140737488355328 by omega)
              have q5 := Aside0.mk (show w_2.heap.size ≤ (w_2.alloc (.cells #[] 38)).heap.size by simp)
              clear hrm
              go_wp2_with (refine gate_ (.call { callee := .builtin .append, args := #[.tmp 33, .tmp 37], argTypes := #[73, 73] }) rfl ?_; refine ev_append (.tmp 33) (.tmp 37) 73 38 rfl rfl w_2.heap.size _ 5 56 Tryd.underlying73 Rm.info38 rfl (by decide) (.slice (some ⟨w_2.heap.size, 0, none⟩) 0 0) 0 [] rfl (own_empty (Nat.le_refl _) (blk_new w_2 _)) ⟨gv, 0, none⟩ L.length cv (L.flatMap Rm.ecl) rfl q1.out q2.out (Rm.ecls_one L) q3.out q4.out q5.out ?_; intro vB wB1 ho hm _ _; rw [List.nil_append, Nat.zero_add] at ho; have HO := Aside0.mk ho; have HM := Aside0.mk hm; clear ho hm)
              go_meet
              obtain ⟨A8, c8, e8⟩ := own_slice HO.out
              have ho8 := HO.out
              rw [e8] at ho8
              exact ⟨A8, c8, e8, ho8, HM.out.after (below_alloc (Below.refl _ _) _) (by simp) (fun q hq => Nat.le_of_eq (Option.some.inj (show some w_2.heap.size = some q from hq.symm)))⟩
          case rest =>
            obtain ⟨A8, c8, rfl, ha8, hb⟩ := hcut
            have HA8 := Aside0.mk ha8
            have HB3 := Aside0.mk (HB2.out.below hb)
            have HT3 := Aside0.mk (HT.out.below hb)
            have H6c := Aside0.mk ((hb.block _ (blk_lt H6b.out)).trans H6b.out)
            have clost : wc.cell? ⟨g6, 0, none⟩ = some (.bool x.lost) := blk_cell H6c.out 0
            clear ha8 hb HB2 HT H6b
            go_upto_if 40 with fail
            go_cut [8] from 14 to 86 (fun s8 wx => s8 = .slice A8 L.length c8 ∧ ∃ (b' k' : Nat) (f' : ByteArray → Option Ent) (v' : Value) (L' : List Ent), Both w wx g w_0.heap.size (i + 1) b' k' f' v' L' ∧ Md wx g2 b2 k f ∧ wx.ownsRow w_2.heap.size 38 5 (.slice A8 L.length c8) L.length (L.flatMap Rm.ecl))
            case first =>
              cases hlo : x.lost
              · rw [hlo] at clost
                go_upto_region 14 with fail
                obtain ⟨o, f', hou⟩ : ∃ o f', outcome f x.r x.ks x.now x.ver = (o, f') := ⟨_, _, rfl⟩
                have HOU := Aside0.mk hou
                have hl0 := HLI.out
                unfold lightSum at hl0
                have HKL := Aside0.mk (show x.ks.length ≤ 1000000 by have := len_le_psum x.ks; omega)
                have HDS := Aside0.mk (show x.r.data.size ≤ 140737488355328 by omega)
                have HGM := Aside0.mk (show g ≠ w_0.heap.size from fun e => by have h2 := HB3.out.md.blk; rw [e, HB3.out.rm.blk] at h2; injection h2 with h2; injection h2 with _ h2; exact absurd h2 (by decide))
                have H6N := Aside0.mk (show g6 ≠ g ∧ g6 ≠ b1 ∧ g6 ≠ w_0.heap.size from ⟨fun e => by have h2 := H6c.out; rw [e, HB3.out.md.blk] at h2; injection h2 with h2; injection h2 with _ h2; exact absurd h2 (by decide), fun e => HB3.out.md.mp.ne H6c.out e.symm, fun e => by have h2 := H6c.out; rw [e, HB3.out.rm.blk] at h2; injection h2 with h2; injection h2 with _ h2; exact absurd h2 (by decide)⟩)
                clear hou hl0
                refine Ev.region_gh (fun (γ : G14) => [(some 50, .pointer (some ⟨g, 0, none⟩)), (some 51, .pointer (some ⟨g6, 2, none⟩)), (some 52, .agg (x.r.c (.slice x.kA x.ks.length x.kc))), (some 53, .pointer (some ⟨g6, 11, none⟩)), (some 54, .int .i64 x.now), (some 55, .pointer (some ⟨g6, 12, none⟩)), (some 56, .int .i64 x.ver), (some 57, .agg (o.c γ.A1 γ.c1)), (some 58, .pointer (some ⟨w_0.heap.size, 0, none⟩)), (some 59, .pointer (some ⟨g6, 2, none⟩)), (some 60, .agg (x.r.c (.slice x.kA x.ks.length x.kc))), (some 61, .pointer (some ⟨g6, 11, none⟩)), (some 62, .int .i64 x.now), (some 63, .pointer (some ⟨g6, 12, none⟩)), (some 64, .int .i64 x.ver), (some 65, .agg (o.c γ.A2 γ.c2)), (some 66, .bool true), (some 67, .bool false)]) (F14 wc g b1 k w.heap.size w_0.heap.size v f L o f') ⟨none, 0, 0, none, 0, .slice none 0 0, []⟩ (by kernel_rfl) (by kernel_rfl) ⟨fun _ => rfl, by decide, rfl⟩ (F14.start HB3.out.md HB3.out.rm) (fun hF => ?_) (fun γ w' hI => ?_)
                · refine Ev.steps_cons (Ev.gh_val hF rfl rfl (by kernel_rfl) (fun _ _ h => by cases h) (fun _ => .pointer (some ⟨g, 0, none⟩)) (fun _ => rfl) (fun γ S w2 hi => hi.idle (by decide) (by decide)) (fun γ S w2 hi => by kernel_rfl)) ?_
                  refine Ev.steps_cons (Ev.gh_val hF rfl rfl (by kernel_rfl) (fun _ _ h => by cases h) (fun _ => .pointer (some ⟨g6, 2, none⟩)) (fun _ => rfl) (fun γ S w2 hi => hi.idle (by decide) (by decide)) (fun γ S w2 hi => (by exact Ev.run_via (v := .pointer (some ⟨g6, 0, none⟩)) rfl (fun _ _ h => by cases h) (by kernel_rfl) (by kernel_rfl)))) ?_
                  refine Ev.steps_cons (Ev.gh_val hF rfl rfl (by kernel_rfl) (fun _ _ h => by cases h) (fun _ => .agg (x.r.c (.slice x.kA x.ks.length x.kc))) (fun _ => rfl) (fun γ S w2 hi => hi.idle (by decide) (by decide)) (fun γ S w2 hi => (by have hb6 := hi.mod.blk H6c.out (fun e => e.elim H6N.out.1 (fun e => e.elim H6N.out.2.1 H6N.out.2.2)); exact run_part 27 (.tmp 51) rfl g6 2 (by kernel_rfl) (x.r.c (.slice x.kA x.ks.length x.kc)).toList _ (range_part hb6 (ask_rq x)) Tryd.underlying27 rfl (by kernel_rfl)))) ?_
                  refine Ev.steps_cons (Ev.gh_val hF rfl rfl (by kernel_rfl) (fun _ _ h => by cases h) (fun _ => .pointer (some ⟨g6, 11, none⟩)) (fun _ => rfl) (fun γ S w2 hi => hi.idle (by decide) (by decide)) (fun γ S w2 hi => (by exact Ev.run_via (v := .pointer (some ⟨g6, 0, none⟩)) rfl (fun _ _ h => by cases h) (by kernel_rfl) (by kernel_rfl)))) ?_
                  refine Ev.steps_cons (Ev.gh_val hF rfl rfl (by kernel_rfl) (fun _ _ h => by cases h) (fun _ => .int .i64 x.now) (fun _ => rfl) (fun γ S w2 hi => hi.idle (by decide) (by decide)) (fun γ S w2 hi => (by have hb6 := hi.mod.blk H6c.out (fun e => e.elim H6N.out.1 (fun e => e.elim H6N.out.2.1 H6N.out.2.2)); have c : w2.cell? ⟨g6, 11, none⟩ = some (.int .i64 x.now) := blk_cell hb6 11; exact Ev.run_via (v := .pointer (some ⟨g6, 11, none⟩)) rfl (fun _ _ h => by cases h) (by kernel_rfl) (by go_simp)))) ?_
                  refine Ev.steps_cons (Ev.gh_val hF rfl rfl (by kernel_rfl) (fun _ _ h => by cases h) (fun _ => .pointer (some ⟨g6, 12, none⟩)) (fun _ => rfl) (fun γ S w2 hi => hi.idle (by decide) (by decide)) (fun γ S w2 hi => (by exact Ev.run_via (v := .pointer (some ⟨g6, 0, none⟩)) rfl (fun _ _ h => by cases h) (by kernel_rfl) (by kernel_rfl)))) ?_
                  refine Ev.steps_cons (Ev.gh_val hF rfl rfl (by kernel_rfl) (fun _ _ h => by cases h) (fun _ => .int .i64 x.ver) (fun _ => rfl) (fun γ S w2 hi => hi.idle (by decide) (by decide)) (fun γ S w2 hi => (by have hb6 := hi.mod.blk H6c.out (fun e => e.elim H6N.out.1 (fun e => e.elim H6N.out.2.1 H6N.out.2.2)); have c : w2.cell? ⟨g6, 12, none⟩ = some (.int .i64 x.ver) := blk_cell hb6 12; exact Ev.run_via (v := .pointer (some ⟨g6, 12, none⟩)) rfl (fun _ _ h => by cases h) (by kernel_rfl) (by go_simp)))) ?_
                  refine Ev.steps_cons (gh_callS hF rfl (want_all rfl) (by kernel_rfl) (fun _ _ h => by cases h) 16 (fun _ => #[.pointer (some ⟨g, 0, none⟩), .agg (x.r.c (.slice x.kA x.ks.length x.kc)), .int .i64 x.now, .int .i64 x.ver]) (fun γ w2 => by kernel_rfl) (fun γ S w2 h0 hd hi => by have hlow := hi.mod.after HB3.out.low HB3.out.low.size (fun q hq => hq.elim (fun e => by rw [e]; exact HB3.out.ge.1) (fun e => e.elim (fun e => by rw [e]; exact HB3.out.ge.2) (fun e => by rw [e]; exact HB3.out.rm.ge))); exact (hi.map h0 ⟨HB3.out.md.lt.1, HB3.out.md.lt.2, HB3.out.rm.lt⟩ (by have := HB3.out.few.1; unfold maxLen; omega) ⟨HX.out.1.below hlow, HP.out.below hlow⟩ HKL.out HDS.out HX.out.2.1 HOU.out HGM.out).mono fun e w' ⟨A1, c1, bb1, he, hi'⟩ => ⟨_, _, he, rfl, (fun j hj => by match j with | 0 | 1 | 2 | 3 | 4 | 5 | 6 | 8 | 9 | 10 | 11 | 12 | 13 | 14 | 15 | 16 | 17 | j + 18 => rfl | 7 => exact absurd rfl hj), hi'⟩)) ?_
                  refine Ev.steps_cons (Ev.gh_val hF rfl rfl (by kernel_rfl) (fun _ _ h => by cases h) (fun _ => .pointer (some ⟨w_0.heap.size, 0, none⟩)) (fun _ => rfl) (fun γ S w2 hi => hi.idle (by decide) (by decide)) (fun γ S w2 hi => by kernel_rfl)) ?_
                  refine Ev.steps_cons (Ev.gh_val hF rfl rfl (by kernel_rfl) (fun _ _ h => by cases h) (fun _ => .pointer (some ⟨g6, 2, none⟩)) (fun _ => rfl) (fun γ S w2 hi => hi.idle (by decide) (by decide)) (fun γ S w2 hi => (by exact Ev.run_via (v := .pointer (some ⟨g6, 0, none⟩)) rfl (fun _ _ h => by cases h) (by kernel_rfl) (by kernel_rfl)))) ?_
                  refine Ev.steps_cons (Ev.gh_val hF rfl rfl (by kernel_rfl) (fun _ _ h => by cases h) (fun _ => .agg (x.r.c (.slice x.kA x.ks.length x.kc))) (fun _ => rfl) (fun γ S w2 hi => hi.idle (by decide) (by decide)) (fun γ S w2 hi => (by have hb6 := hi.mod.blk H6c.out (fun e => e.elim H6N.out.1 (fun e => e.elim H6N.out.2.1 H6N.out.2.2)); exact run_part 27 (.tmp 59) rfl g6 2 (by kernel_rfl) (x.r.c (.slice x.kA x.ks.length x.kc)).toList _ (range_part hb6 (ask_rq x)) Tryd.underlying27 rfl (by kernel_rfl)))) ?_
                  refine Ev.steps_cons (Ev.gh_val hF rfl rfl (by kernel_rfl) (fun _ _ h => by cases h) (fun _ => .pointer (some ⟨g6, 11, none⟩)) (fun _ => rfl) (fun γ S w2 hi => hi.idle (by decide) (by decide)) (fun γ S w2 hi => (by exact Ev.run_via (v := .pointer (some ⟨g6, 0, none⟩)) rfl (fun _ _ h => by cases h) (by kernel_rfl) (by kernel_rfl)))) ?_
                  refine Ev.steps_cons (Ev.gh_val hF rfl rfl (by kernel_rfl) (fun _ _ h => by cases h) (fun _ => .int .i64 x.now) (fun _ => rfl) (fun γ S w2 hi => hi.idle (by decide) (by decide)) (fun γ S w2 hi => (by have hb6 := hi.mod.blk H6c.out (fun e => e.elim H6N.out.1 (fun e => e.elim H6N.out.2.1 H6N.out.2.2)); have c : w2.cell? ⟨g6, 11, none⟩ = some (.int .i64 x.now) := blk_cell hb6 11; exact Ev.run_via (v := .pointer (some ⟨g6, 11, none⟩)) rfl (fun _ _ h => by cases h) (by kernel_rfl) (by go_simp)))) ?_
                  refine Ev.steps_cons (Ev.gh_val hF rfl rfl (by kernel_rfl) (fun _ _ h => by cases h) (fun _ => .pointer (some ⟨g6, 12, none⟩)) (fun _ => rfl) (fun γ S w2 hi => hi.idle (by decide) (by decide)) (fun γ S w2 hi => (by exact Ev.run_via (v := .pointer (some ⟨g6, 0, none⟩)) rfl (fun _ _ h => by cases h) (by kernel_rfl) (by kernel_rfl)))) ?_
                  refine Ev.steps_cons (Ev.gh_val hF rfl rfl (by kernel_rfl) (fun _ _ h => by cases h) (fun _ => .int .i64 x.ver) (fun _ => rfl) (fun γ S w2 hi => hi.idle (by decide) (by decide)) (fun γ S w2 hi => (by have hb6 := hi.mod.blk H6c.out (fun e => e.elim H6N.out.1 (fun e => e.elim H6N.out.2.1 H6N.out.2.2)); have c : w2.cell? ⟨g6, 12, none⟩ = some (.int .i64 x.ver) := blk_cell hb6 12; exact Ev.run_via (v := .pointer (some ⟨g6, 12, none⟩)) rfl (fun _ _ h => by cases h) (by kernel_rfl) (by go_simp)))) ?_
                  refine Ev.steps_cons (gh_callS hF rfl (want_all rfl) (by kernel_rfl) (fun _ _ h => by cases h) 32 (fun _ => #[.pointer (some ⟨w_0.heap.size, 0, none⟩), .agg (x.r.c (.slice x.kA x.ks.length x.kc)), .int .i64 x.now, .int .i64 x.ver]) (fun γ w2 => by kernel_rfl) (fun γ S w2 h0 hd hi => by have hlow := hi.mod.after HB3.out.low HB3.out.low.size (fun q hq => hq.elim (fun e => by rw [e]; exact HB3.out.ge.1) (fun e => e.elim (fun e => by rw [e]; exact HB3.out.ge.2) (fun e => by rw [e]; exact HB3.out.rm.ge))); exact (hi.row h0 ⟨HB3.out.md.lt.1, HB3.out.md.lt.2, HB3.out.rm.lt⟩ (by have := HB3.out.few.2; omega) (HX.out.1.below hlow) HKL.out HB3.out.rel (fun kk => live_fine HB3.out.md x.r kk x.now HDS.out HX.out.2.1) HOU.out).mono fun e w' ⟨A2, c2, v2, L2, he, hi'⟩ => ⟨_, _, he, rfl, (fun j hj => by match j with | 0 | 1 | 2 | 3 | 4 | 5 | 6 | 7 | 8 | 9 | 10 | 11 | 12 | 13 | 14 | 16 | 17 | j + 18 => rfl | 15 => exact absurd rfl hj), hi'⟩)) ?_
                  refine Ev.steps_cons (gh_callS hF rfl (want_all rfl) (by kernel_rfl) (fun _ _ h => by cases h) 19 (fun γ => #[.agg (o.c γ.A1 γ.c1), .agg (o.c γ.A2 γ.c2)]) (fun γ w2 => by kernel_rfl) (fun γ S w2 h0 hd hi => by have p1 := hi.p1 (hd ⟨7, .data⟩ (by simp) rfl); have p2 := hi.r1 (hd ⟨15, .data⟩ (by simp) rfl); exact (answers_any o.k o.n o.t o.ge γ.A1 γ.A2 γ.c1 γ.c2 o.L w2 p1.2.1.1 p2.2.2.2.1).mono fun e w' ⟨he, hb⟩ => ⟨_, γ, he, rfl, fun _ _ => rfl, hi.below hb (by decide) (by decide)⟩)) ?_
                  refine Ev.steps_cons (Ev.gh_val hF rfl rfl (by kernel_rfl) (fun _ _ h => by cases h) (fun _ => .bool false) (fun _ => rfl) (fun γ S w2 hi => hi.idle (by decide) (by decide)) (fun γ S w2 hi => (by exact Ev.run_via (v := .bool true) rfl (fun _ _ h => by cases h) (by kernel_rfl) (by kernel_rfl)))) ?_
                  exact Ev.steps_nil
                · simp only [Ev.putAll, Act.put, List.setIfInBounds_toArray, List.set_cons_succ, List.set_cons_zero]
                  have HI2 := Aside0.mk hI
                  clear hI
                  go_wp2_with fail
                  go_meet
                  obtain ⟨hm1, _, hb1⟩ := HI2.out.p1 (Ev.repl_at (by decide))
                  obtain ⟨hr1, hrel, hlen, _⟩ := HI2.out.r1 (Ev.repl_at (by decide))
                  have hf := HB3.out.few
                  exact ⟨rfl, γ.b1, k + 1, f', γ.v2, γ.L2, ⟨hm1, hr1, hrel, ⟨by omega, by omega⟩, HI2.out.mod.after HB3.out.low HB3.out.low.size (fun q hq => hq.elim (fun e => by rw [e]; exact HB3.out.ge.1) (fun e => e.elim (fun e => by rw [e]; exact HB3.out.ge.2) (fun e => by rw [e]; exact HB3.out.rm.ge))), ⟨HB3.out.ge.1, hb1.elim (fun e => by rw [e]; exact HB3.out.ge.2) (fun e => Nat.le_trans HB3.out.low.size e)⟩⟩, HT3.out.mod HI2.out.mod (fun e => e.elim HTN.out.1 (fun e => e.elim HTN.out.2.1 HTN.out.2.2.1)) (fun e => e.elim HTN.out.2.2.2.1 (fun e => e.elim HTN.out.2.2.2.2.1 HTN.out.2.2.2.2.2)), HI2.out.mod.own HA8.out (fun q hq e => by
                    obtain ⟨cs, hc⟩ := own_typed HA8.out q hq
                    rcases e with e | e | e
                    · rw [e, HB3.out.md.blk] at hc
                      injection hc with hc
                      injection hc with _ hc
                      exact absurd hc (by decide)
                    · exact HB3.out.md.mp.ne hc e.symm
                    · rw [e, HB3.out.rm.blk] at hc
                      injection hc with hc
                      injection hc with _ hc
                      exact absurd hc (by decide))⟩
              · rw [hlo] at clost
                go_upto_region 12 with fail
                obtain ⟨bb, hbb⟩ : ∃ bb, bb = (f x.key).isSome := ⟨_, rfl⟩
                have HBB := Aside0.mk hbb.symm
                have HKS := Aside0.mk (show x.key.size ≤ maxLen by have := HLI.out; unfold lightSum at this; unfold maxLen; omega)
                have H6N := Aside0.mk (show g6 ≠ b1 ∧ g6 ≠ w_0.heap.size from ⟨fun e => HB3.out.md.mp.ne H6c.out e.symm, fun e => by have h2 := H6c.out; rw [e, HB3.out.rm.blk] at h2; injection h2 with h2; injection h2 with _ h2; exact absurd h2 (by decide)⟩)
                clear hbb
                refine Ev.region_gh (fun _ => [(some 41, .pointer (some ⟨g, 0, none⟩)), (some 42, .pointer (some ⟨g6, 1, none⟩)), (some 43, .string x.key), (some 44, .bool bb), (some 45, .pointer (some ⟨w_0.heap.size, 0, none⟩)), (some 46, .pointer (some ⟨g6, 1, none⟩)), (some 47, .string x.key), (some 48, .bool bb), (some 49, .bool false)]) (F12 wc g b1 k w.heap.size w_0.heap.size v f L x.key) (.slice none 0 0) (by kernel_rfl) (by kernel_rfl) ⟨fun _ => rfl, by decide, rfl⟩ (F12.start HB3.out.md HB3.out.rm) (fun hF => ?_) (fun γ w' hI => ?_)
                · refine Ev.steps_cons (Ev.gh_val hF rfl rfl (by kernel_rfl) (fun _ _ h => by cases h) (fun _ => .pointer (some ⟨g, 0, none⟩)) (fun _ => rfl) (fun γ S w2 hi => hi.idle (by decide) (by decide)) (fun γ S w2 hi => by kernel_rfl)) ?_
                  refine Ev.steps_cons (Ev.gh_val hF rfl rfl (by kernel_rfl) (fun _ _ h => by cases h) (fun _ => .pointer (some ⟨g6, 1, none⟩)) (fun _ => rfl) (fun γ S w2 hi => hi.idle (by decide) (by decide)) (fun γ S w2 hi => (by exact Ev.run_via (v := .pointer (some ⟨g6, 0, none⟩)) rfl (fun _ _ h => by cases h) (by kernel_rfl) (by kernel_rfl)))) ?_
                  refine Ev.steps_cons (Ev.gh_val hF rfl rfl (by kernel_rfl) (fun _ _ h => by cases h) (fun _ => .string x.key) (fun _ => rfl) (fun γ S w2 hi => hi.idle (by decide) (by decide)) (fun γ S w2 hi => (by have c : w2.cell? ⟨g6, 1, none⟩ = some (.string x.key) := blk_cell (hi.mod.blk H6c.out (fun e => e.elim H6N.out.1 H6N.out.2)) 1; exact Ev.run_via (v := .pointer (some ⟨g6, 1, none⟩)) rfl (fun _ _ h => by cases h) (by kernel_rfl) (by go_simp)))) ?_
                  refine Ev.steps_cons (gh_callS hF rfl (want_all rfl) (by kernel_rfl) (fun _ _ h => by cases h) 23 (fun _ => #[.pointer (some ⟨g, 0, none⟩), .string x.key]) (fun γ w2 => by kernel_rfl) (fun γ S w2 h0 hd hi => (hi.map h0 HKS.out).mono fun e w' ⟨he, hi'⟩ => ⟨_, γ, he, by rw [HBB.out]; rfl, fun _ _ => rfl, hi'⟩)) ?_
                  refine Ev.steps_cons (Ev.gh_val hF rfl rfl (by kernel_rfl) (fun _ _ h => by cases h) (fun _ => .pointer (some ⟨w_0.heap.size, 0, none⟩)) (fun _ => rfl) (fun γ S w2 hi => hi.idle (by decide) (by decide)) (fun γ S w2 hi => by kernel_rfl)) ?_
                  refine Ev.steps_cons (Ev.gh_val hF rfl rfl (by kernel_rfl) (fun _ _ h => by cases h) (fun _ => .pointer (some ⟨g6, 1, none⟩)) (fun _ => rfl) (fun γ S w2 hi => hi.idle (by decide) (by decide)) (fun γ S w2 hi => (by exact Ev.run_via (v := .pointer (some ⟨g6, 0, none⟩)) rfl (fun _ _ h => by cases h) (by kernel_rfl) (by kernel_rfl)))) ?_
                  refine Ev.steps_cons (Ev.gh_val hF rfl rfl (by kernel_rfl) (fun _ _ h => by cases h) (fun _ => .string x.key) (fun _ => rfl) (fun γ S w2 hi => hi.idle (by decide) (by decide)) (fun γ S w2 hi => (by have c : w2.cell? ⟨g6, 1, none⟩ = some (.string x.key) := blk_cell (hi.mod.blk H6c.out (fun e => e.elim H6N.out.1 H6N.out.2)) 1; exact Ev.run_via (v := .pointer (some ⟨g6, 1, none⟩)) rfl (fun _ _ h => by cases h) (by kernel_rfl) (by go_simp)))) ?_
                  refine Ev.steps_cons (gh_callS hF rfl (want_all rfl) (by kernel_rfl) (fun _ _ h => by cases h) 31 (fun _ => #[.pointer (some ⟨w_0.heap.size, 0, none⟩), .string x.key]) (fun γ w2 => by kernel_rfl) (fun γ S w2 h0 hd hi => (hi.row h0 (by have := HB3.out.few.2; omega) HB3.out.rel).mono fun e w' ⟨he, γ', hi'⟩ => ⟨_, γ', he, by rw [HBB.out]; rfl, fun _ _ => rfl, hi'⟩)) ?_
                  refine Ev.steps_cons (Ev.gh_val hF rfl rfl (by kernel_rfl) (fun _ _ h => by cases h) (fun _ => .bool false) (fun _ => rfl) (fun γ S w2 hi => hi.idle (by decide) (by decide)) (fun γ S w2 hi => by cases bb <;> kernel_rfl)) ?_
                  exact Ev.steps_nil
                · simp only [Ev.putAll, Act.put, List.setIfInBounds_toArray, List.set_cons_succ, List.set_cons_zero]
                  have HI2 := Aside0.mk hI
                  clear hI
                  go_wp2_with fail
                  go_meet
                  have hm1 := HI2.out.md1 (Ev.repl_at (by decide))
                  have hr1 := HI2.out.rm1 (Ev.repl_at (by decide))
                  have hf := HB3.out.few
                  exact ⟨rfl, b1, k, upd f x.key none, γ, Rm.forgetL x.key L, ⟨hm1, hr1, HB3.out.rel.drop x.key, ⟨by omega, Nat.le_trans (forget_len _ _) (by omega)⟩, HI2.out.mod.after HB3.out.low HB3.out.low.size (fun q hq => hq.elim (fun e => by rw [e]; exact HB3.out.ge.2) (fun e => by rw [e]; exact HB3.out.rm.ge)), HB3.out.ge⟩, HT3.out.mod HI2.out.mod (fun e => e.elim HTN.out.2.1 HTN.out.2.2.1) (fun e => e.elim HTN.out.2.2.2.2.1 HTN.out.2.2.2.2.2), HI2.out.mod.own HA8.out (fun q hq e => by
                    obtain ⟨cs, hc⟩ := own_typed HA8.out q hq
                    rcases e with e | e
                    · exact HB3.out.md.mp.ne hc e.symm
                    · rw [e, HB3.out.rm.blk] at hc
                      injection hc with hc
                      injection hc with _ hc
                      exact absurd hc (by decide))⟩
            case rest =>
              obtain ⟨rfl, b3, k3, f3, v3, L3, hb4, ht4, ho8⟩ := hcut
              have HB4 := Aside0.mk hb4
              have HT4 := Aside0.mk ht4
              have HO8 := Aside0.mk ho8
              have HREL := Aside0.mk HB3.out.rel
              have HKI := Aside0.mk (show k ≤ i from HB3.out.few.1)
              have HLN := Aside0.mk (show L.length ≤ 60 from Nat.le_trans HB3.out.few.2 hi60)
              clear hb4 ht4 ho8 HA8 HB3 HT3 H6c clost
              go_upto_region 16 with fail
              refine Ev.region_gh (fun (γ : Value × Value) => [(some 68, .pointer (some ⟨g, 0, none⟩)), (some 69, γ.1), (some 70, .pointer (some ⟨w_0.heap.size, 0, none⟩)), (some 71, .pointer (some ⟨w_0.heap.size, 0, none⟩)), (some 72, .pointer (some ⟨w_0.heap.size, 0, none⟩)), (some 73, v3), (some 74, .bool true), (some 75, .bool false), (some 76, .bool false), (some 77, .pointer (some ⟨g2, 0, none⟩)), (some 78, .bool false), (some 79, .bool false), (some 80, .bool false), (some 81, .pointer (some ⟨g2, 0, none⟩)), (some 82, γ.2), (some 83, .slice A8 L.length c8), (some 84, .bool true), (some 85, .bool false), (some 86, .bool false)]) (F16 wc wc.heap.size L3 L) (undef, undef) (by kernel_rfl) (by kernel_rfl) ⟨fun _ => rfl, by decide, rfl⟩ F16.start (fun hF => ?_) (fun γ w' hI => ?_)
              · refine Ev.steps_cons (Ev.gh_val hF rfl rfl (by kernel_rfl) (fun _ _ h => by cases h) (fun _ => .pointer (some ⟨g, 0, none⟩)) (fun _ => rfl) (fun γ S w2 hi => hi.idle (by decide) (by decide)) (fun γ S w2 hi => by kernel_rfl)) ?_
                refine Ev.steps_cons (gh_callS hF rfl (want_all rfl) (by kernel_rfl) (fun _ _ h => by cases h) 34 (fun _ => #[.pointer (some ⟨g, 0, none⟩)]) (fun γ w2 => by kernel_rfl) (fun γ S w2 h0 hd hi => (hi.list HB4.out.md HB4.out.rel (by have := HB4.out.few.1; omega) (Nat.le_refl _)).mono fun e w' ⟨v1, he, hi'⟩ => ⟨_, _, he, rfl, (fun j hj => by match j with | 0 | 2 | 3 | 4 | 5 | 6 | 7 | 8 | 9 | 10 | 11 | 12 | 13 | 14 | 15 | 16 | 17 | 18 | j + 19 => rfl | 1 => exact absurd rfl hj), hi'⟩)) ?_
                refine Ev.steps_cons (Ev.gh_val hF rfl rfl (by kernel_rfl) (fun _ _ h => by cases h) (fun _ => .pointer (some ⟨w_0.heap.size, 0, none⟩)) (fun _ => rfl) (fun γ S w2 hi => hi.idle (by decide) (by decide)) (fun γ S w2 hi => by kernel_rfl)) ?_
                refine Ev.steps_cons (Ev.gh_val hF rfl rfl (by kernel_rfl) (fun _ _ h => by cases h) (fun _ => .pointer (some ⟨w_0.heap.size, 0, none⟩)) (fun _ => rfl) (fun γ S w2 hi => hi.idle (by decide) (by decide)) (fun γ S w2 hi => (by exact Ev.run_via (v := .pointer (some ⟨w_0.heap.size, 0, none⟩)) rfl (fun _ _ h => by cases h) (by kernel_rfl) (by kernel_rfl)))) ?_
                refine Ev.steps_cons (Ev.gh_val hF rfl rfl (by kernel_rfl) (fun _ _ h => by cases h) (fun _ => .pointer (some ⟨w_0.heap.size, 0, none⟩)) (fun _ => rfl) (fun γ S w2 hi => hi.idle (by decide) (by decide)) (fun γ S w2 hi => (by exact Ev.run_via (v := .pointer (some ⟨w_0.heap.size, 0, none⟩)) rfl (fun _ _ h => by cases h) (by kernel_rfl) (by kernel_rfl)))) ?_
                refine Ev.steps_cons (Ev.gh_val hF rfl rfl (by kernel_rfl) (fun _ _ h => by cases h) (fun _ => v3) (fun _ => rfl) (fun γ S w2 hi => hi.idle (by decide) (by decide)) (fun γ S w2 hi => (by have c : w2.cell? ⟨w_0.heap.size, 0, none⟩ = some v3 := pw_cell_below hi.low (blk_cell HB4.out.rm.blk 0); exact Ev.run_via (v := .pointer (some ⟨w_0.heap.size, 0, none⟩)) rfl (fun _ _ h => by cases h) (by kernel_rfl) (by go_simp)))) ?_
                refine Ev.steps_cons (gh_callS hF rfl (want_all rfl) (by kernel_rfl) (fun _ _ h => by cases h) 33 (fun γ => #[γ.1, v3]) (fun γ w2 => by kernel_rfl) (fun γ S w2 h0 hd hi => by obtain ⟨a1, c1, e1, h1⟩ := arg_row (hi.l1 (hd ⟨1, .data⟩ (by simp) rfl)) rfl (by have := HB4.out.few.2; omega); obtain ⟨a2, c2, e2, h2⟩ := arg_row (pw_own_below HB4.out.rm.row hi.low) rfl (by have := HB4.out.few.2; omega); have hs := same33 a1 a2 c1 c2 L3 w2 h1 h2; rw [← e1, ← e2] at hs; exact hs.mono fun e w' ⟨he, hb⟩ => ⟨_, γ, he, rfl, fun _ _ => rfl, hi.below hb (by decide) (by decide)⟩)) ?_
                refine Ev.steps_cons (Ev.gh_val hF rfl rfl (by kernel_rfl) (fun _ _ h => by cases h) (fun _ => .bool false) (fun _ => rfl) (fun γ S w2 hi => hi.idle (by decide) (by decide)) (fun γ S w2 hi => (by exact Ev.run_via (v := .bool true) rfl (fun _ _ h => by cases h) (by kernel_rfl) (by kernel_rfl)))) ?_
                refine Ev.steps_cons (Ev.gh_val hF rfl rfl (by kernel_rfl) (fun _ _ h => by cases h) (fun _ => .bool false) (fun _ => rfl) (fun γ S w2 hi => hi.idle (by decide) (by decide)) (fun γ S w2 hi => by kernel_rfl)) ?_
                refine Ev.steps_cons (gh_valG hF rfl (wanted_of hF (i := 8) (b := false) rfl rfl rfl (fun _ => rfl) (fun S hd => hd ⟨8, .guard⟩ (by simp) rfl)) (by kernel_rfl) (fun _ _ h => by cases h) (fun _ => .pointer (some ⟨g2, 0, none⟩)) (fun _ => rfl) (fun γ S w2 hi => hi.idle (by decide) (by decide)) (fun γ S w2 hi => by kernel_rfl)) ?_
                refine Ev.steps_cons (gh_valG hF rfl (wanted_of hF (i := 8) (b := false) rfl rfl rfl (fun _ => rfl) (fun S hd => hd ⟨8, .guard⟩ (by simp) rfl)) (by kernel_rfl) (fun _ _ h => by cases h) (fun _ => .bool false) (fun _ => rfl) (fun γ S w2 hi => hi.idle (by decide) (by decide)) (fun γ S w2 hi => by kernel_rfl)) ?_
                refine Ev.steps_cons (Ev.gh_val hF rfl rfl (by kernel_rfl) (fun _ _ h => by cases h) (fun _ => .bool false) (fun _ => rfl) (fun γ S w2 hi => hi.idle (by decide) (by decide)) (fun γ S w2 hi => by kernel_rfl)) ?_
                refine Ev.steps_cons (Ev.gh_val hF rfl rfl (by kernel_rfl) (fun _ _ h => by cases h) (fun _ => .bool false) (fun _ => rfl) (fun γ S w2 hi => hi.idle (by decide) (by decide)) (fun γ S w2 hi => by kernel_rfl)) ?_
                refine Ev.steps_cons (gh_valG hF rfl (wanted_of hF (i := 12) (b := false) rfl rfl rfl (fun _ => rfl) (fun S hd => hd ⟨12, .guard⟩ (by simp) rfl)) (by kernel_rfl) (fun _ _ h => by cases h) (fun _ => .pointer (some ⟨g2, 0, none⟩)) (fun _ => rfl) (fun γ S w2 hi => hi.idle (by decide) (by decide)) (fun γ S w2 hi => by kernel_rfl)) ?_
                refine Ev.steps_cons (gh_callS hF rfl (wanted_of hF (i := 12) (b := false) rfl rfl rfl (fun _ => rfl) (fun S hd => hd ⟨12, .guard⟩ (by simp) rfl)) (by kernel_rfl) (fun _ _ h => by cases h) 34 (fun _ => #[.pointer (some ⟨g2, 0, none⟩)]) (fun γ w2 => by kernel_rfl) (fun γ S w2 h0 hd hi => (hi.twin HT4.out HREL.out (by have := HB4.out.few.1; have := HKI.out; omega) (Nat.le_refl _)).mono fun e w' ⟨v1, he, hi'⟩ => ⟨_, _, he, rfl, (fun j hj => by match j with | 0 | 1 | 2 | 3 | 4 | 5 | 6 | 7 | 8 | 9 | 10 | 11 | 12 | 13 | 15 | 16 | 17 | 18 | j + 19 => rfl | 14 => exact absurd rfl hj), hi'⟩)) ?_
                refine Ev.steps_cons (gh_valG hF rfl (wanted_of hF (i := 12) (b := false) rfl rfl rfl (fun _ => rfl) (fun S hd => hd ⟨12, .guard⟩ (by simp) rfl)) (by kernel_rfl) (fun _ _ h => by cases h) (fun _ => .slice A8 L.length c8) (fun _ => rfl) (fun γ S w2 hi => hi.idle (by decide) (by decide)) (fun γ S w2 hi => by kernel_rfl)) ?_
                refine Ev.steps_cons (gh_callS hF rfl (wanted_of hF (i := 12) (b := false) rfl rfl rfl (fun _ => rfl) (fun S hd => hd ⟨12, .guard⟩ (by simp) rfl)) (by kernel_rfl) (fun _ _ h => by cases h) 33 (fun γ => #[γ.2, .slice A8 L.length c8]) (fun γ w2 => by kernel_rfl) (fun γ S w2 h0 hd hi => by obtain ⟨a1, c1, e1, h1⟩ := arg_row (hi.l2 (hd ⟨14, .data⟩ (by simp) rfl)) rfl (by have := HLN.out; omega); obtain ⟨a2, c2, e2, h2⟩ := arg_row (pw_own_below HO8.out hi.low) rfl (by have := HLN.out; omega); have hs := same33 a1 a2 c1 c2 L w2 h1 h2; rw [← e1, ← e2] at hs; exact hs.mono fun e w' ⟨he, hb⟩ => ⟨_, γ, he, rfl, fun _ _ => rfl, hi.below hb (by decide) (by decide)⟩)) ?_
                refine Ev.steps_cons (gh_valG hF rfl (wanted_of hF (i := 12) (b := false) rfl rfl rfl (fun _ => rfl) (fun S hd => hd ⟨12, .guard⟩ (by simp) rfl)) (by kernel_rfl) (fun _ _ h => by cases h) (fun _ => .bool false) (fun _ => rfl) (fun γ S w2 hi => hi.idle (by decide) (by decide)) (fun γ S w2 hi => (by exact Ev.run_via (v := .bool true) rfl (fun _ _ h => by cases h) (by kernel_rfl) (by kernel_rfl)))) ?_
                refine Ev.steps_cons (Ev.gh_val hF rfl rfl (by kernel_rfl) (fun _ _ h => by cases h) (fun _ => .bool false) (fun _ => rfl) (fun γ S w2 hi => hi.idle (by decide) (by decide)) (fun γ S w2 hi => by kernel_rfl)) ?_
                exact Ev.steps_nil
              · simp only [Ev.putAll, Act.put, List.setIfInBounds_toArray, List.set_cons_succ, List.set_cons_zero]
                have HI2 := Aside0.mk hI.low
                clear hI
                go_wp2_with fail
                go_roundg (n - (i + 1))
                case measure => have := HI.out; omega
                case rel => exact ⟨i + 1, b3, k3, f3, v3, L3, by have := HI.out; omega, by go_num, by omega, HB4.out.below HI2.out⟩
        · rw [decide_eq_false hli]
          clear hli
          go_wp2_with fail
          go_roundg (n - (i + 1))
          case measure => have := HI.out; omega
          case rel => exact ⟨i + 1, b1, k, f, v, L, by have := HI.out; omega, by go_num, by omega, HB1.out.more (Nat.le_succ i)⟩
      · have r1 : decide ((i : Int) < (n : Int)) = true := decide_eq_true (by omega)
        have r2 : (i : Int) < (n : Int) := by omega
        have r3 : decide ((i : Int) < 60) = false := decide_eq_false (by omega)
        have r4 : ¬ (i : Int) < 60 := by omega
        go_wp2_with fail
        refine (runs_calls wr (HP.out.below HBO.out.low)).mono ?_
        rintro e_1 w_1 ⟨rfl, hb⟩
        have HB1 := Aside0.mk (below_then HBO.out.low HBO.out.low.size hb)
        clear hb
        go_wp2_with fail
        go_ret
        exact ⟨rfl, HB1.out⟩
    · have r1 : decide ((i : Int) < (n : Int)) = false := decide_eq_false (by omega)
      have r2 : ¬ (i : Int) < (n : Int) := by omega
      go_wp2_with fail
      refine (runs_calls wr (HP.out.below HBO.out.low)).mono ?_
      rintro e_1 w_1 ⟨rfl, hb⟩
      have HB1 := Aside0.mk (below_then HBO.out.low HBO.out.low.size hb)
      clear hb
      go_wp2_with fail
      go_ret
      exact ⟨rfl, HB1.out⟩
end Go.Proofs.YtepklobkppdliaaDoor.Mp
