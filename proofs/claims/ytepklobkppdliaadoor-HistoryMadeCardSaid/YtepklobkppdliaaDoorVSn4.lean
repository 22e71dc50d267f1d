/- The history: HistoryMade. -/
import Derived.Test.YtepklobkppdliaaDoorVSn3
namespace Go.Proofs.YtepklobkppdliaaDoor.Hs
open Go.RowKit Go.Proofs.YtepklobkppdliaaDoorW.PrintWords Go.Proofs.YtepklobkppdliaaDoorW.PrintLast Go.Proofs.YtepklobkppdliaaDoorW.PrintMore Go.Proofs.YtepklobkppdliaaDoor.Lib Go.Proofs.YtepklobkppdliaaDoor.Open Go.Proofs.YtepklobkppdliaaDoor.Md
theorem info67 : (Tryd.prog.info? 67).map (fun i => (i.zero, i.size, i.bytes)) = some (some (.agg #[.int .i64 0, .int .i64 0, .string ⟨#[]⟩, .bool false, .bool false, .bool false]), 6, 40) := by kernel_rfl
theorem ocl_one (o : Oc) : ∀ u ∈ ocl o, u.oneCell' = true := by simp [ocl, Value.oneCell']
theorem evs_take {w : World} {A : Option Addr} {evs : List Evt} (h : Evs w A evs) (k : Nat) : Evs w A (evs.take k) := by
  refine ⟨⟨rfl, by rw [List.length_take]; have := h.few; omega, fun h0 => ?_⟩, fun e he => h.keys e (List.mem_of_mem_take he), fun e he => h.vals e (List.mem_of_mem_take he), by rw [List.length_take]; have := h.few; omega, fun e he => h.plain e (List.mem_of_mem_take he)⟩
  rw [List.length_take] at h0
  obtain ⟨b, o, e, hr⟩ := h.arg.2.2 (by omega)
  refine ⟨b, o, e, fun j u hu => hr j u ?_⟩
  have e2 : evs.flatMap Evt.c = (evs.take k).flatMap Evt.c ++ (evs.drop k).flatMap Evt.c := by rw [← List.flatMap_append, List.take_append_drop]
  rw [e2, List.getElem?_append_left (List.getElem?_eq_some_iff.1 hu).1]
  exact hu
/-- What a beginning of a made history is. -/
theorem made_order {evs : List Evt} (h : ∃ D en, Sim (evs.map Evt.sp) D en) (h9 : nC (evs.map Evt.sp) ≤ 9) (hq : ∀ x ∈ evs, isC keyA x.sp = true → RqOk x.sp.r) (k : Nat) :
    orderB keyA (opsK keyA ((evs.take k).map Evt.sp) (evs.take k).length) = true ∧ (opsK keyA ((evs.take k).map Evt.sp) (evs.take k).length).length ≤ 10 ∧ ∀ s ∈ opsK keyA ((evs.take k).map Evt.sp) (evs.take k).length, SpOk s := by
  obtain ⟨D, en, hs⟩ := h
  have e : (evs.take k).length = ((evs.take k).map Evt.sp).length := by rw [List.length_map]
  have em : (evs.take k).map Evt.sp = (evs.map Evt.sp).take k := List.map_take
  refine ⟨?_, ?_, ?_⟩
  · rw [e, em]
    obtain ⟨D', e', h2⟩ := sim_take hs k
    exact sim_order h2
  · rw [e, ops_len _ _ (Nat.le_refl _), List.take_length, em]
    have : nC ((evs.map Evt.sp).take k) ≤ nC (evs.map Evt.sp) := (List.take_sublist k _).countP_le
    omega
  · refine opsK_ok fun x hx hc => ?_
    obtain ⟨y, hy, rfl⟩ := List.mem_map.1 hx
    exact hq y (List.mem_of_mem_take hy) hc
theorem flat_of {α : Type} {cl : α → List Value} {s : Nat} (hs : ∀ x, (cl x).length = s) (h0 : 0 < s) {xs : List α} {j : Nat} {u : Value} (h : (xs.flatMap cl)[j]? = some u) : ∃ a x b, j = a * s + b ∧ xs[a]? = some x ∧ (cl x)[b]? = some u := by
  have hj := (List.getElem?_eq_some_iff.1 h).1
  rw [flat_length cl s hs] at hj
  have hb := Nat.mod_lt j h0
  have ha : j / s < xs.length := Nat.div_lt_of_lt_mul (by rw [Nat.mul_comm]; exact hj)
  have e : j = j / s * s + j % s := (Nat.div_add_mod' j s).symm
  have hx := List.getElem?_eq_getElem ha
  obtain ⟨v, hc⟩ : ∃ v, (cl xs[j / s])[j % s]? = some v := ⟨_, List.getElem?_eq_getElem (by rw [hs (xs[j / s])]; exact hb)⟩
  have h2 := flat_at cl s hs xs _ _ hx _ _ hc
  rw [← e, h] at h2
  exact ⟨j / s, xs[j / s], j % s, e, hx, hc.trans h2.symm⟩
/-- A row of calls of the call's own. -/
structure OwnOps (w0 W : World) (A : Option Addr) (N : Nat) (ys : List Oc) : Prop where
  len : ys.length = N
  few : N ≤ 40
  row : 0 < N → ∃ g cur, A = some ⟨g, 0, none⟩ ∧ w0.heap.size ≤ g ∧ W.heap[g]? = some (.cells cur 67 (0, 0)) ∧ N * 6 ≤ cur.size ∧ ∀ i y, ys[i]? = some y → ∀ b u, (ocl y)[b]? = some u → cur[i * 6 + b]? = some u
  low : Below w0.heap.size w0 W
theorem OwnOps.arg {w0 W : World} {A : Option Addr} {N : Nat} {ys : List Oc} (h : OwnOps w0 W A N ys) : Arg ocl W A N ys :=
  ⟨h.len, by have := h.few; omega, fun h0 => by
    obtain ⟨g, cur, e, _, hb, _, hc⟩ := h.row h0
    refine ⟨g, 0, e, fun j u hu => ?_⟩
    obtain ⟨a, x, b, rfl, hx, hu2⟩ := flat_of ocl_len (by omega) hu
    rw [Nat.zero_add, blk_cell hb]
    exact hc a x hx b u hu2⟩
theorem OwnOps.of_own {w0 W : World} {A : Option Addr} {c n N : Nat} {xs : List Oc} (h : W.ownsRow w0.heap.size 67 6 (.slice A n c) n (xs.flatMap ocl)) (hx : xs.length = n) (hN : N ≤ n) (h40 : N ≤ 40) (hb : Below w0.heap.size w0 W) : OwnOps w0 W A N (xs.take N) where
  len := by rw [List.length_take]; omega
  few := h40
  row := fun h0 => by
    rcases h.2 with ⟨e, rfl⟩ | ⟨g, cap, cur, e, hg, hh, h1, _, h3, h4⟩
    · omega
    · injection e with e _ _
      refine ⟨g, cur, e, hg, hh, by omega, fun i y hy b u hu => ?_⟩
      have hy2 : xs[i]? = some y := by
        rw [List.getElem?_take] at hy
        split at hy
        · exact hy
        · cases hy
      have := flat_at ocl 6 ocl_len xs i y hy2 b u hu
      rw [← h4, List.getElem?_take] at this
      split at this
      · rw [← Array.getElem?_toList]; exact this
      · cases this
  low := hb
/-- The i-th lies no more. -/
theorem OwnOps.calm {w0 W : World} {A : Option Addr} {N : Nat} {ys : List Oc} (h : OwnOps w0 W A N ys) {i : Nat} {y : Oc} (hy : ys[i]? = some y) {g : Nat} {cur : Array Value} (e : A = some ⟨g, 0, none⟩) (hg : w0.heap.size ≤ g) (hb : W.heap[g]? = some (.cells cur 67 (0, 0))) (hs : N * 6 ≤ cur.size)
    (hc : ∀ i y, ys[i]? = some y → ∀ b u, (ocl y)[b]? = some u → cur[i * 6 + b]? = some u) : OwnOps w0 (W.setCell ⟨g, i * 6 + 5, none⟩ (.bool false)) A N (ys.set i { y with lie := false }) where
  len := by rw [List.length_set]; exact h.len
  few := h.few
  row := fun _ => by
    refine ⟨g, cur.setIfInBounds (i * 6 + 5) (.bool false), e, hg, blk_put hb _ _ rfl, by simpa using hs, fun j z hz b u hu => ?_⟩
    have hi := (List.getElem?_eq_some_iff.1 hy).1
    have hiN : i < N := by have := h.len; omega
    have hb6 : b < 6 := by have := (List.getElem?_eq_some_iff.1 hu).1; rw [ocl_len] at this; exact this
    by_cases hj : j = i
    · subst hj
      rw [List.getElem?_set_self hi] at hz
      injection hz with hz
      subst hz
      by_cases h5 : b = 5
      · subst h5
        rw [Array.getElem?_setIfInBounds_self_of_lt (by omega)]
        exact hu
      · rw [Array.getElem?_setIfInBounds_ne (by omega)]
        refine hc j y hy b u ?_
        rcases (by omega : b = 0 ∨ b = 1 ∨ b = 2 ∨ b = 3 ∨ b = 4) with rfl | rfl | rfl | rfl | rfl <;> exact hu
    · rw [List.getElem?_set_ne (Ne.symm hj)] at hz
      rw [Array.getElem?_setIfInBounds_ne (by omega)]
      exact hc j z hz b u hu
  low := h.low.trans ((Mod.setCell (S := fun q => q = g) (Mod.refl _ W) (p := ⟨g, i * 6 + 5, none⟩) (.inl rfl) (.bool false)).below (fun q hq => by rw [hq]; exact hg) h.low.size)
set_option maxHeartbeats 16000000 in
set_option maxRecDepth 100000 in
theorem hmade_card {a0 : Option Addr} {n c0 : Nat} {xs : List Oc} (cut : Int) (w : World) (hP : Pow w) (hA : Arg ocl w a0 n xs) (hb0 : n * 40 ≤ 140737488355328) :
    Calls Tryd.prog 11 #[.slice a0 n c0, .int .i64 cut] w fun e w' => e = .returned (.bool true) ∧ Below w.heap.size w w' := by
  have HP := Aside0.mk hP
  have HA := Aside0.mk hA
  have HB0 := Aside0.mk hb0
  clear hP hA hb0
  go_enter Tryd.func11, Tryd.ntmps11
  go_upto_region 1 with fail
  go_cut [5] from 12 to 59 (fun s5 wx => ∃ (A : Option Addr) (c : Nat), s5 = .slice A n c ∧ wx.ownsRow w.heap.size 67 6 (.slice A n c) n (xs.flatMap ocl) ∧ Below w.heap.size w wx)
  case first =>
    by_cases hn0 : n = 0
    · subst hn0
      have hx : xs = [] := List.length_eq_zero_iff.1 HA.out.1
      cases a0 with
      | none =>
        go_wp2_with fail
        go_meet
        exact ⟨_, _, rfl, by rw [hx]; exact own_empty (Nat.le_refl _) (blk_new w _), below_alloc (Below.refl _ _) _⟩
      | some ad =>
        go_wp2_with fail
        go_meet
        exact ⟨_, _, rfl, by rw [hx]; exact own_empty (Nat.le_refl _) (blk_new w _), below_alloc (Below.refl _ _) _⟩
    · obtain ⟨b, o, rfl, hr⟩ := HA.out.2.2 (by omega)
      have HR := Aside0.mk hr
      have HN0 := Aside0.mk hn0
      clear hr hn0
      have q1 := Aside0.mk (show (xs.flatMap ocl).length = n * 6 by rw [flat_length ocl 6 ocl_len, HA.out.1])
      have q2 := Aside0.mk (show ∀ j u, (xs.flatMap ocl)[j]? = some u → (w.alloc (.cells #[] 67)).cell? ((⟨b, o, none⟩ : Addr).add j) = some u from fun j u hu => by rw [Addr.add_mid]; exact cell_low (HR.out j u hu) (below_alloc (Below.refl _ _) _))
      have q3 := Aside0.mk (show 0 + n ≤ maxLen by have := HB0.out; unfold maxLen; omega)
      have q4 := Aside0.mk (show (0 + n) * 40 ≤ 140737488355328 by have := HB0.out; omega)
      have q5 := Aside0.mk (show w.heap.size ≤ (w.alloc (.cells #[] 67)).heap.size by simp)
      go_wp2_with (refine gate_ (.call { callee := .builtin .append, args := #[.tmp 12, .tmp 13], argTypes := #[65, 65] }) rfl ?_; refine ev_append (.tmp 12) (.tmp 13) 65 67 rfl rfl w.heap.size _ 6 40 Tryd.underlying65 info67 rfl (by decide) (.slice (some ⟨w.heap.size, 0, none⟩) 0 0) 0 [] rfl (own_empty (Nat.le_refl _) (blk_new w _)) ⟨b, o, none⟩ n c0 (xs.flatMap ocl) rfl q1.out q2.out (flat_one ocl_one _) q3.out q4.out q5.out ?_; intro vB wB1 ho hm _ _; rw [List.nil_append, Nat.zero_add] at ho; obtain ⟨AB, cB, rfl⟩ := own_slice ho; have HO := Aside0.mk ho; have HM := Aside0.mk hm; clear ho hm)
      go_meet
      exact ⟨AB, cB, rfl, HO.out, HM.out.after (below_alloc (Below.refl _ _) _) (by simp) (fun q hq => Nat.le_of_eq (Option.some.inj (show some w.heap.size = some q from hq.symm)))⟩
  case rest =>
    obtain ⟨A, c, rfl, ho, hb⟩ := hcut
    have HO := Aside0.mk ho
    have HB := Aside0.mk hb
    have hcap := own_cap ho
    have hnA : 40 < n → ∃ g, A = some ⟨g, 0, none⟩ := fun h => by
      rcases ho.2 with ⟨e, rfl⟩ | ⟨g, cap, cur, e, _⟩
      · omega
      · injection e with e _ _
        exact ⟨g, e⟩
    have HNA := Aside0.mk hnA
    have hcap2 : (n : Int) ≤ (c : Int) := by omega
    clear ho hb HB0 hcap hnA
    go_upto_if 17 with fail
    go_cut [5] from 12 to 59 (fun s5 wx => ∃ (N : Nat) (c2 : Nat), s5 = .slice A N c2 ∧ N ≤ n ∧ N ≤ 40 ∧ wx = wc)
    case first =>
      by_cases h40 : 40 < n
      · obtain ⟨g, rfl⟩ := HNA.out h40
        have d1 : decide ((40 : Int) < (n : Int)) = true := decide_eq_true (by omega)
        have d2 : (40 : Int) < (n : Int) := by omega
        have d3 : (40 : Int) ≤ (c : Int) := by omega
        have d4 : 40 ≤ c := by omega
        go_wp2_with fail
        go_meet
        exact ⟨40, _, rfl, by omega, by omega, rfl⟩
      · have d1 : decide ((40 : Int) < (n : Int)) = false := decide_eq_false (by omega)
        have d2 : ¬ (40 : Int) < (n : Int) := by omega
        go_wp2_with fail
        go_meet
        exact ⟨n, _, rfl, by omega, by omega, rfl⟩
    case rest =>
      obtain ⟨N, c2, rfl, hNn, hN40, rfl⟩ := hcut
      have HOP := Aside0.mk (OwnOps.of_own HO.out HA.out.1 hNn hN40 HB.out)
      have hN63 : (N : Int) ≤ 40 := by omega
      clear hNn hN40 HO HB HNA hcap2
      go_wp2
      go_loopg [6] N (fun R s6 wr => ∃ (i : Nat) (ys : List Oc), i + R = N ∧ s6 = .int .i64 (i : Int) ∧ OwnOps w wr A N ys ∧ ∀ j y, j < i → ys[j]? = some y → y.lie = false)
      case atStart => exact ⟨0, _, by omega, rfl, HOP.out, fun j y hj => absurd hj (Nat.not_lt_zero _)⟩
      case round =>
        obtain ⟨i, ys, hi, rfl, hop, hli⟩ := hrel
        have HI := Aside0.mk hi
        have HOQ := Aside0.mk hop
        have HLI := Aside0.mk hli
        by_cases hlt : i < N
        · obtain ⟨g, cur, rfl, hg, hb, hs, hc⟩ := hop.row (by omega)
          obtain ⟨y, hy⟩ : ∃ y, ys[i]? = some y := ⟨_, List.getElem?_eq_getElem (by have := hop.len; omega)⟩
          have r1 : decide ((i : Int) < (N : Int)) = true := decide_eq_true (by omega)
          have r2 : (i : Int) < (N : Int) := by omega
          have c5 : wr.cell? ⟨g, i * 6 + 5, none⟩ = some (.bool y.lie) := (blk_cell hb _).trans (hc i y hy 5 _ rfl)
          have f5 := blk_frozen hb (i * 6 + 5)
          have HN := Aside0.mk (hop.calm hy rfl hg hb hs hc)
          have HY := Aside0.mk hy
          clear hi hop hli hg hb hs hc hy
          go_wp2
          go_roundg (N - (i + 1))
          case measure => have := HI.out; omega
          case rel => exact ⟨i + 1, _, by have := HI.out; omega, by go_num, HN.out, fun j z hj hz => by
            by_cases e : j = i
            · subst e
              rw [List.getElem?_set_self (List.getElem?_eq_some_iff.1 HY.out).1] at hz
              rw [← Option.some.inj hz]
            · rw [List.getElem?_set_ne (Ne.symm e)] at hz
              exact HLI.out j z (by omega) hz⟩
        · have r1 : decide ((i : Int) < (N : Int)) = false := decide_eq_false (by omega)
          have r2 : ¬ (i : Int) < (N : Int) := by omega
          have HLA := Aside0.mk (show ∀ z ∈ ys, z.lie = false from fun z hz => by
            obtain ⟨j, hj⟩ := List.getElem?_of_mem hz
            exact hli j z (by have := (List.getElem?_eq_some_iff.1 hj).1; have := hop.len; omega) hj)
          clear hi hop hli HLI HOP
          go_wp2_with fail
          refine (made_calls (c0 := c2) wr HOQ.out.arg HOQ.out.few HLA.out).mono ?_
          rintro e_1 w_1 ⟨A1, c1, evs, rfl, hro, hev, hsim, h9, hrq, h40, hb⟩
          have HE := Aside0.mk (evs_of hro rfl (by omega) hev)
          have HOR := Aside0.mk (fun k => made_order hsim h9 hrq k)
          have HB1 := Aside0.mk (below_then HOQ.out.low HOQ.out.low.size hb)
          have h40i : evs.length ≤ 40 := h40
          have HCP := Aside0.mk (own_cap hro)
          have HFO := Aside0.mk (show A1 = none → evs.length = 0 from fun e => by
            rcases hro.2 with ⟨_, e2⟩ | ⟨g, cap, cur, e2, _⟩
            · exact e2
            · injection e2 with e2 _ _; rw [e] at e2; cases e2)
          clear hro hev hsim h9 hrq h40 hb HOQ HLA
          have hfull := HOR.out evs.length
          rw [List.take_length] at hfull
          have HFU := Aside0.mk hfull
          clear hfull
          go_wp2_with fail
          refine (check_calls A1 c1 evs keyA w_1 _ HE.out rfl HFU.out.2.1 HFU.out.2.2 (HP.out.below HB1.out)).mono ?_
          rintro e_2 w_2 ⟨rfl, hb⟩
          rw [HFU.out.1]
          have HE2 := Aside0.mk (HE.out.below hb)
          have HB2 := Aside0.mk (below_then HB1.out HB1.out.size hb)
          clear hb HE HB1
          go_wp2_with fail
          refine (within_any cut evs.length (by omega) w_2).mono ?_
          rintro e_3 w_3 ⟨k, rfl, hk, rfl⟩
          obtain ⟨ev2, hev2⟩ : ∃ ev2, ev2 = evs.take k := ⟨_, rfl⟩
          have hlen : k = ev2.length := by rw [hev2, List.length_take]; omega
          have hor := HOR.out k
          have he3 := evs_take HE2.out k
          rw [← hev2] at hor he3
          have HOR2 := Aside0.mk hor
          have HE3 := Aside0.mk he3
          have hkc : (k : Int) ≤ (c1 : Int) := by have := HCP.out; omega
          have hkn : (k : Int) ≤ (evs.length : Int) := by omega
          have hk0 : (0 : Int) ≤ (k : Int) := by omega
          have HLE := Aside0.mk hlen
          clear hor he3 hev2 hlen HOR HFU
          cases A1 with
          | none =>
            have h0 : evs.length = 0 := HFO.out rfl
            go_wp2_with fail
            rw [HLE.out]
            refine (check_calls none c1 ev2 keyA w_3 _ HE3.out rfl HOR2.out.2.1 HOR2.out.2.2 (HP.out.below HB2.out)).mono ?_
            rintro e_4 w_4 ⟨rfl, hb⟩
            rw [HOR2.out.1]
            have HB3 := Aside0.mk (below_then HB2.out HB2.out.size hb)
            clear hb hkc hkn hk0
            go_wp2_with fail
            refine (hruns_calls w_4 (HP.out.below HB3.out)).mono ?_
            rintro e_5 w_5 ⟨rfl, hb⟩
            have HB4 := Aside0.mk (below_then HB3.out HB3.out.size hb)
            clear hb
            go_wp2_with fail
            go_ret
            exact ⟨rfl, HB4.out⟩
          | some ad =>
            go_wp2_with fail
            rw [HLE.out]
            refine (check_calls (some ad) c1 ev2 keyA w_3 _ HE3.out rfl HOR2.out.2.1 HOR2.out.2.2 (HP.out.below HB2.out)).mono ?_
            rintro e_4 w_4 ⟨rfl, hb⟩
            rw [HOR2.out.1]
            have HB3 := Aside0.mk (below_then HB2.out HB2.out.size hb)
            clear hb hkc hkn hk0
            go_wp2_with fail
            refine (hruns_calls w_4 (HP.out.below HB3.out)).mono ?_
            rintro e_5 w_5 ⟨rfl, hb⟩
            have HB4 := Aside0.mk (below_then HB3.out HB3.out.size hb)
            clear hb
            go_wp2_with fail
            go_ret
            exact ⟨rfl, HB4.out⟩
end Go.Proofs.YtepklobkppdliaaDoor.Hs
