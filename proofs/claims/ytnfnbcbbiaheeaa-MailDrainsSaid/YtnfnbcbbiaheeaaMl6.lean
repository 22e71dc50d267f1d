/- Drain: frames, round by round. -/
import Derived.Test.YtnfnbcbbiaheeaaMl5
namespace Go.Proofs.Ytnfnbcbbiaheeaa.Ml
open Go.RowKit Go.Proofs.YtnfnbcbbiaheeaaW.PrintWords Go.Proofs.YtnfnbcbbiaheeaaW.PrintLast Go.Proofs.Ytnfnbcbbiaheeaa.Lib Go.Proofs.Ytnfnbcbbiaheeaa.Open
def cls (xs : List Fr) : List Value := xs.flatMap cl
theorem cls_append (xs ys : List Fr) : cls (xs ++ ys) = cls xs ++ cls ys := by simp [cls]
theorem cls_single (x : Fr) : cls [x] = cl x := by simp [cls]
theorem cl_one (x : Fr) : ∀ u ∈ cl x, u.oneCell' = true := by
  intro u hu
  simp only [cl, List.mem_cons, List.not_mem_nil, or_false] at hu
  rcases hu with rfl | rfl | rfl | rfl | rfl | rfl | rfl | rfl | rfl <;> rfl
theorem info44 : (Try.prog.info? 44).map (fun i => (i.zero, i.size, i.bytes)) = some (some (.agg (cl z).toArray), 9, 88) := by kernel_rfl
/-- Boxes, and a row of frames of the call's own. -/
structure Dn (w0 W : World) (bs : List (Option (Nat × Nat))) (xss : List (List Fr)) (v : Value) (out : List Fr) : Prop where
  bxs : Bxs W bs xss
  own : W.ownsRow w0.heap.size 44 9 v out.length (cls out)
  mod : Mod (Chs bs) w0 W
section
variable {w0 W W1 : World} {bs : List (Option (Nat × Nat))} {xss : List (List Fr)} {v : Value} {out : List Fr}
theorem Dn.far (h : Dn w0 W bs xss v out) (hb : Below W.heap.size W W1) : Dn w0 W1 bs xss v out := ⟨h.bxs.below hb, pw_own_below h.own hb, h.mod.then_below hb⟩
theorem Dn.side (h : Dn w0 W bs xss v out) {g : Nat} {cur : Array Value} (hm : Mod (fun k => k = g) W W1) (hg : W.heap[g]? = some (.cells cur 44 (0, 0))) (hv : v.ownBlock ≠ some g) (h0 : w0.heap.size ≤ g) : Dn w0 W1 bs xss v out :=
  ⟨h.bxs.side hm hg, hm.own h.own (fun _ hk e => hv (by rw [hk, e])), h.mod.trans hm (fun k hk => .inr (by rw [hk]; exact h0))⟩
theorem Dn.took (h : Dn w0 W bs xss v out) {yss : List (List Fr)} (hx : Bxs W1 bs yss) (hm : Mod (Chs bs) W W1) : Dn w0 W1 bs yss v out := ⟨hx, hm.own h.own (h.bxs.own h.own), h.mod.trans hm (fun _ hk => .inl hk)⟩
theorem Bxs.app (h : Bxs W bs xss) {base m : Nat} {ys : List Value} {v : Value} (ho : W.ownsRow base 44 9 v m ys) (hm : Mod (fun k => some k = v.ownBlock) W W1) : Bxs W1 bs xss :=
  ⟨h.len, fun i p hp => by
    obtain ⟨xs, h1, h2⟩ := h.box i p hp
    refine ⟨xs, h1, h2.mod hm (fun e => ?_) (fun e => h.own ho _ e.symm ⟨i, p.1, hp⟩)⟩
    obtain ⟨c, hc⟩ := own_typed ho _ e.symm
    have := h2.blk
    rw [hc] at this
    injection this with this
    injection this with _ this
    exact absurd this (by decide), h.nil, h.diff⟩
theorem Dn.app (h : Dn w0 W bs xss v out) {v1 : Value} {x : Fr} (ho : W1.ownsRow w0.heap.size 44 9 v1 (out.length + 1) (cls out ++ cl x)) (hm : Mod (fun k => some k = v.ownBlock) W W1) : Dn w0 W1 bs xss v1 (out ++ [x]) :=
  ⟨h.bxs.app h.own hm, by rw [List.length_append, List.length_singleton, cls_append, cls_single]; exact ho, h.mod.trans hm (fun k hk => .inr (own_base h.own k hk.symm))⟩
theorem Dn.size (h : Dn w0 W bs xss v out) : w0.heap.size ≤ W.heap.size := h.mod.size
theorem Dn.lt (h : Dn w0 W bs xss v out) : v.ownBlock ≠ some W.heap.size := fun e => Nat.lt_irrefl _ (own_lt h.own _ e)
end
/-- The outer loop. -/
def OutAt (w0 : World) (bs : List (Option (Nat × Nat))) (n : Int) (T : Nat) (F : List (List Fr) × List Fr) (k : Nat) (s5 : Value) (wr : World) : Prop :=
  ∃ xss out, Dn w0 wr bs xss s5 out ∧ out.length + tot xss = T ∧ drain n k xss out = F ∧ tot xss < k
/-- The inner loop. -/
def InAt (w0 : World) (bs : List (Option (Nat × Nat))) (n : Int) (T nb o0 : Nat) (P : List (List Fr) × List Fr) (k : Nat) (s5 s6 s17 : Value) (wr : World) : Prop :=
  ∃ (i : Nat) (xss : List (List Fr)) (out : List Fr) (tk : Bool), s17 = .int .i64 (i : Int) ∧ s6 = .bool tk ∧ i + k = nb ∧ Dn w0 wr bs xss s5 out ∧ out.length + tot xss = T ∧ (out.length : Int) < n ∧ At n i xss out P ∧ tk = decide (out.length ≠ o0) ∧ o0 ≤ out.length
set_option maxHeartbeats 16000000 in
set_option maxRecDepth 100000 in
theorem drain_calls (n : Int) (A : Option Addr) (nb cap : Nat) (bs : List (Option (Nat × Nat))) (xss0 : List (List Fr)) (w : World) (hX : Bxs w bs xss0) (hR : Row w A nb bs) (hnb : nb ≤ 1000) (hT : tot xss0 ≤ 1000) (F : List (List Fr) × List Fr) (hF : drain n (tot xss0 + 1) xss0 [] = F) :
    Calls Try.prog 24 #[.int .i64 n, .slice A nb cap] w fun e w' => ∃ v, e = .returned v ∧ Dn w w' bs F.1 v F.2 := by
  have hu44 := Try.underlying44
  have HX := Aside0.mk hX
  have HR := Aside0.mk hR
  have BL := Aside0.mk (show bs.length = nb from hR.len)
  obtain ⟨T, hTe⟩ : ∃ T, T = tot xss0 := ⟨_, rfl⟩
  have HO := Aside0.mk (show OutAt w bs n T F (T + 1) (.slice none 0 0) w from ⟨xss0, [], ⟨hX, own_nil _ _ _ _, Mod.refl _ _⟩, by rw [hTe]; simp, by rw [hTe]; exact hF, by omega⟩)
  rw [← hTe] at hT
  clear hX hR hF hTe
  go_enter Try.func24, Try.ntmps24
  go_wp2
  go_step3
  go_wp2
  go_step3
  go_wp2
  go_loopg [5] (T + 1) (fun k s5 wr => OutAt w bs n T F k s5 wr)
  case atStart => exact HO.out
  case round =>
    clear HO
    obtain ⟨xss, out, hD, hTt, hF, hlt⟩ := hrel
    have HD := Aside0.mk hD
    obtain ⟨Av, cv, rfl⟩ := own_slice hD.own
    clear hD
    by_cases hn : (out.length : Int) < n
    · have t1 : decide ((out.length : Int) < n) = true := decide_eq_true hn
      obtain ⟨k, rfl⟩ : ∃ k, gk = k + 1 := ⟨gk - 1, by omega⟩
      obtain ⟨P, hP⟩ : ∃ P, P = pass n xss out := ⟨_, rfl⟩
      rw [drain, if_pos hn, ← hP] at hF
      have HI := Aside0.mk (show InAt w bs n T nb out.length P nb (.slice Av out.length cv) (.bool false) (.int .i64 0) wr from ⟨0, xss, out, false, rfl, rfl, by omega, HD.out, hTt, hn, by unfold At; rw [hP]; simp, by simp, Nat.le_refl _⟩)
      obtain ⟨o0, ho0⟩ : ∃ o0, o0 = out.length := ⟨_, rfl⟩
      rw [← ho0] at hF hTt HI
      have HF := Aside0.mk hF
      have H0 := Aside0.mk (And.intro hTt hlt)
      clear HD hP hF hTt hlt hn
      go_wp2
      go_step3
      go_wp2
      go_step3
      go_wp2
      go_loopg [5, 6, 17] nb (fun kk s5 s6 s17 wr => InAt w bs n T nb o0 P kk s5 s6 s17 wr)
      case atStart => rw [← ho0]; exact HI.out
      case round =>
        clear HI ho0 t1
        obtain ⟨i, yss, ou, tk, rfl, rfl, hik, hD, hTt, hn, hAt, htk, hoo⟩ := hrel
        have HD := Aside0.mk hD
        have HAt := Aside0.mk hAt
        have HTK := Aside0.mk htk
        have HTt := Aside0.mk (And.intro hTt (And.intro hn hoo))
        obtain ⟨Au, cu, rfl⟩ := own_slice hD.own
        by_cases hlt : i < nb
        · have t2 : decide ((i : Int) < (nb : Int)) = true := decide_eq_true (by omega)
          have N0 := Aside0.mk (show 0 < nb by omega)
          obtain ⟨p, hp⟩ : ∃ p, bs[i]? = some p := ⟨_, List.getElem?_eq_getElem (by have := BL.out; omega)⟩
          obtain ⟨ba, rfl, hc⟩ := (HR.out.mod HX.out hD.mod).cell hp
          cases p with
          | none =>
            have hx := hD.bxs.nil i hp
            have HA2 := Aside0.mk (hAt.empty hx)
            simp only [pv] at hc
            clear hD hTt hn hAt htk hoo hp hx
            go_wp2_with fail
            go_roundg (nb - (i + 1))
            case measure => omega
            case rel => exact ⟨i + 1, yss, ou, tk, by go_num, rfl, by omega, HD.out, HTt.out.1, HTt.out.2.1, HA2.out, HTK.out, HTt.out.2.2⟩
          | some q =>
            obtain ⟨g, c⟩ := q
            obtain ⟨xs, hx, _⟩ := hD.bxs.box i _ hp
            simp only [pv] at hc
            have HP := Aside0.mk hp
            have HXI := Aside0.mk hx
            cases xs with
            | nil =>
              have HA2 := Aside0.mk (hAt.empty hx)
              clear hD hTt hn hAt htk hoo hp hx
              go_wp2_with (first | (go_at_call 23; (with_reducible refine (take_at HD.out.bxs HP.out HXI.out false z (.inl rfl)).mono ?_); rintro e_1 w_1 ⟨rfl, hx2, hm⟩; have HD_n := Aside0.mk (HD.out.took (show Bxs w_1 bs yss from by rw [List.tail_nil, set_same HXI.out] at hx2; exact hx2) hm); clear HD; have HD := HD_n; clear HD_n hx2 hm) | (refine gate_ (.alloc 44) rfl ?_; refine box_event ?hg (N := 9) ?hd (cs := (cl z).toArray) (t := 44) ?hr ?_; (case hd => rfl); (case hg => rfl); (case hr => first | (go_simp; done) | (go_simp; rfl)); intro g9 hgb w_1 hbox hb; have K9 := Aside0.mk hbox; have N9 := Aside0.mk (show (Value.slice Au ou.length cu).ownBlock ≠ some g9 from by rw [hgb]; exact HD.out.lt); have S9 := Aside0.mk (show w.heap.size ≤ g9 from by rw [hgb]; exact HD.out.size); have HD_n := Aside0.mk (HD.out.far hb); clear HD; have HD := HD_n; clear HD_n hgb hbox hb) | (refine ev_store_row (.store 44 (.tmp 9) (.tmp 26)) rfl rfl rfl 44 (.tmp 9) (.tmp 26) rfl g9 (cl z).toArray rfl rfl 44 (cl z).toArray K9.out (by kernel_rfl) rfl (cl_all _) ?_; intro w_2 hw2 hm2; have HD_n := Aside0.mk (HD.out.side hm2 K9.out N9.out S9.out); clear HD K9; have HD := HD_n; have K9 := Aside0.mk hw2; clear HD_n hw2 hm2))
              go_roundg (nb - (i + 1))
              case measure => omega
              case rel => exact ⟨i + 1, yss, ou, tk, by go_num, rfl, by omega, HD.out, HTt.out.1, HTt.out.2.1, HA2.out, HTK.out, HTt.out.2.2⟩
            | cons y ys =>
              have hts := tot_set hx
              have HB1 := Aside0.mk (show ou.length + 1 ≤ maxLen by unfold maxLen; omega)
              have HB2 := Aside0.mk (show (ou.length + 1) * 88 ≤ 140737488355328 by omega)
              have HTS := Aside0.mk (show (ou ++ [y]).length + tot (yss.set i ys) = T by rw [List.length_append, List.length_singleton]; omega)
              by_cases hfull : ((ou.length + 1 : Nat) : Int) = n
              · have hPe := hAt.full hx hfull
                have hFe : F = (yss.set i ys, ou ++ [y]) := by
                  have := HF.out
                  rw [if_neg (by rw [hPe]; simp only [List.length_append, List.length_singleton]; omega), hPe] at this
                  rw [← this]
                  exact drain_full n k _ _ (by simp only [List.length_append, List.length_singleton]; omega)
                have u1 : (((ou.length : Int) + 1) == n) = true := beq_iff_eq.2 (by omega)
                subst hFe
                have HN := Aside0.mk hfull
                clear hD hTt hn hAt htk hoo hp hx hts hPe hfull
                go_wp2_with (first | (go_at_call 23; (with_reducible refine (take_at HD.out.bxs HP.out HXI.out true y (.inr rfl)).mono ?_); rintro e_1 w_1 ⟨rfl, hx2, hm⟩; have HD_n := Aside0.mk (HD.out.took (show Bxs w_1 bs (yss.set i ys) from hx2) hm); clear HD; have HD := HD_n; clear HD_n hx2 hm) | (refine gate_ (.alloc 44) rfl ?_; refine box_event ?hg (N := 9) ?hd (cs := (cl z).toArray) (t := 44) ?hr ?_; (case hd => rfl); (case hg => rfl); (case hr => first | (go_simp; done) | (go_simp; rfl)); intro g9 hgb w_1 hbox hb; have K9 := Aside0.mk hbox; have N9 := Aside0.mk (show (Value.slice Au ou.length cu).ownBlock ≠ some g9 from by rw [hgb]; exact HD.out.lt); have S9 := Aside0.mk (show w.heap.size ≤ g9 from by rw [hgb]; exact HD.out.size); have HD_n := Aside0.mk (HD.out.far hb); clear HD; have HD := HD_n; clear HD_n hgb hbox hb) | (refine ev_store_row (.store 44 (.tmp 9) (.tmp 26)) rfl rfl rfl 44 (.tmp 9) (.tmp 26) rfl g9 (cl y).toArray rfl rfl 44 (cl z).toArray K9.out (by kernel_rfl) rfl (cl_all _) ?_; intro w_2 hw2 hm2; have HD_n := Aside0.mk (HD.out.side hm2 K9.out N9.out S9.out); clear HD K9; have HD := HD_n; have K9 := Aside0.mk hw2; clear HD_n hw2 hm2) | (refine ev_load_row (.load 44 (.tmp 9)) rfl rfl 44 (.tmp 9) rfl g9 rfl 44 (cl y).toArray _ K9.out hu44 rfl (by kernel_rfl) ?_) | (refine ev_lit (.buildSlice 48 1 #[(0, .tmp 31)]) rfl rfl 1 (cl y).toArray 44 ?hr ?_; (case hr => (simp only [cl]; first | (go_simp; done) | (go_simp; rfl))); intro g1 hg1 w_1 hk1 hb; have HK := Aside0.mk hk1; have HD_n := Aside0.mk (HD.out.far hb); clear HD; have HD := HD_n; clear HD_n hg1 hk1 hb) | (refine ev_append (.tmp 30) (.tmp 32) 48 44 rfl rfl w.heap.size _ 9 88 Try.underlying48 info44 rfl (by decide) _ ou.length (cls ou) rfl HD.out.own ⟨g1, 0, none⟩ 1 1 (cl y) rfl rfl (fun j u hu => by rw [add_plain]; exact (blk_cell HK.out j).trans (by simpa using hu)) (cl_one _) HB1.out HB2.out HD.out.size ?_; intro u2 w_2 ho2 hm2 _ hat2; have HD_n := Aside0.mk (HD.out.app ho2 hm2); obtain ⟨Au2, cu2, rfl⟩ := own_slice ho2; clear HD; have HD := HD_n; clear HD_n ho2 hm2 hat2))
                try rw [Exit.noGoto_ret]
                go_ret
                exact ⟨_, rfl, HD.out⟩
              · have HA2 := Aside0.mk (hAt.more hx hfull)
                have u1 : (((ou.length : Int) + 1) == n) = false := beq_eq_false_iff_ne.2 (by omega)
                have HTJ := Aside0.mk (show ((ou ++ [y]).length : Int) < n ∧ true = decide ((ou ++ [y]).length ≠ o0) ∧ o0 ≤ (ou ++ [y]).length from by
                  rw [List.length_append, List.length_singleton]
                  exact ⟨by omega, (decide_eq_true (by omega)).symm, by omega⟩)
                clear hD hTt hn hAt htk hoo hp hx hts hfull
                go_wp2_with (first | (go_at_call 23; (with_reducible refine (take_at HD.out.bxs HP.out HXI.out true y (.inr rfl)).mono ?_); rintro e_1 w_1 ⟨rfl, hx2, hm⟩; have HD_n := Aside0.mk (HD.out.took (show Bxs w_1 bs (yss.set i ys) from hx2) hm); clear HD; have HD := HD_n; clear HD_n hx2 hm) | (refine gate_ (.alloc 44) rfl ?_; refine box_event ?hg (N := 9) ?hd (cs := (cl z).toArray) (t := 44) ?hr ?_; (case hd => rfl); (case hg => rfl); (case hr => first | (go_simp; done) | (go_simp; rfl)); intro g9 hgb w_1 hbox hb; have K9 := Aside0.mk hbox; have N9 := Aside0.mk (show (Value.slice Au ou.length cu).ownBlock ≠ some g9 from by rw [hgb]; exact HD.out.lt); have S9 := Aside0.mk (show w.heap.size ≤ g9 from by rw [hgb]; exact HD.out.size); have HD_n := Aside0.mk (HD.out.far hb); clear HD; have HD := HD_n; clear HD_n hgb hbox hb) | (refine ev_store_row (.store 44 (.tmp 9) (.tmp 26)) rfl rfl rfl 44 (.tmp 9) (.tmp 26) rfl g9 (cl y).toArray rfl rfl 44 (cl z).toArray K9.out (by kernel_rfl) rfl (cl_all _) ?_; intro w_2 hw2 hm2; have HD_n := Aside0.mk (HD.out.side hm2 K9.out N9.out S9.out); clear HD K9; have HD := HD_n; have K9 := Aside0.mk hw2; clear HD_n hw2 hm2) | (refine ev_load_row (.load 44 (.tmp 9)) rfl rfl 44 (.tmp 9) rfl g9 rfl 44 (cl y).toArray _ K9.out hu44 rfl (by kernel_rfl) ?_) | (refine ev_lit (.buildSlice 48 1 #[(0, .tmp 31)]) rfl rfl 1 (cl y).toArray 44 ?hr ?_; (case hr => (simp only [cl]; first | (go_simp; done) | (go_simp; rfl))); intro g1 hg1 w_1 hk1 hb; have HK := Aside0.mk hk1; have HD_n := Aside0.mk (HD.out.far hb); clear HD; have HD := HD_n; clear HD_n hg1 hk1 hb) | (refine ev_append (.tmp 30) (.tmp 32) 48 44 rfl rfl w.heap.size _ 9 88 Try.underlying48 info44 rfl (by decide) _ ou.length (cls ou) rfl HD.out.own ⟨g1, 0, none⟩ 1 1 (cl y) rfl rfl (fun j u hu => by rw [add_plain]; exact (blk_cell HK.out j).trans (by simpa using hu)) (cl_one _) HB1.out HB2.out HD.out.size ?_; intro u2 w_2 ho2 hm2 _ hat2; have HD_n := Aside0.mk (HD.out.app ho2 hm2); obtain ⟨Au2, cu2, rfl⟩ := own_slice ho2; clear HD; have HD := HD_n; clear HD_n ho2 hm2 hat2))
                go_roundg (nb - (i + 1))
                case measure => omega
                case rel => exact ⟨i + 1, _, _, true, by go_num, rfl, by omega, HD.out, HTS.out, HTJ.out.1, HA2.out, HTJ.out.2.1, HTJ.out.2.2⟩
        · obtain rfl : i = nb := by omega
          have t2 : decide ((i : Int) < (i : Int)) = false := decide_eq_false (by omega)
          have hPe := hAt.end_ (by rw [hD.bxs.len]; exact BL.out.symm)
          have hFo := HF.out
          rw [hPe] at hFo
          simp only at hFo
          have h00 := H0.out
          cases tk with
          | false =>
            have he : ou.length = o0 := by simpa using htk.symm
            rw [if_pos he] at hFo
            subst hFo
            clear hD hTt hn hAt htk hoo hPe h00 he
            go_wp2
            rw [Exit.noGoto_exit]
            go_wp2
            try rw [Exit.noGoto_ret]
            go_ret
            exact ⟨_, rfl, HD.out⟩
          | true =>
            have he : ¬ ou.length = o0 := by simpa using htk.symm
            rw [if_neg he] at hFo
            have HO := Aside0.mk (show tot yss < k by omega)
            have HFO := Aside0.mk hFo
            clear hD hTt hn hAt htk hoo hPe h00 he hFo
            go_wp2
            rw [Exit.noGoto_normal]
            go_wp2
            go_roundg k
            case measure => omega
            case rel => exact ⟨yss, ou, HD.out, HTt.out.1, HFO.out, HO.out⟩
    · have t1 : decide ((out.length : Int) < n) = false := decide_eq_false hn
      rw [drain_full n gk xss out hn] at hF
      subst hF
      clear hn hlt hTt
      go_wp2
      try rw [Exit.noGoto_ret]
      go_ret
      exact ⟨_, rfl, HD.out⟩
end Go.Proofs.Ytnfnbcbbiaheeaa.Ml
