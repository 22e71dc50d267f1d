/- First frame of the first box that isn't empty. -/
import Derived.Test.YtnfnbcbbiaheeaaMl4
import Derived.Deep.RegionLaw
import Derived.WalkMore
namespace Go.Proofs.Ytnfnbcbbiaheeaa.Ml
open Go.RowKit Go.Proofs.YtnfnbcbbiaheeaaW.PrintWords Go.Proofs.YtnfnbcbbiaheeaaW.PrintLast Go.Proofs.Ytnfnbcbbiaheeaa.Lib Go.Proofs.Ytnfnbcbbiaheeaa.Open
section
variable {P : Program} {ops : Array Oper} {o : Oper} {a : Act} {Q : Exit → Act → World → Prop} {K : Act → World → Prop}
theorem st_load_row {W : World} {D : Prop} (ty : TypeId) (x : Operand) (ho : o.op = .load ty x) (hw : Region.wanted o (yielded ops a.tmps) = true) (g : Nat) (hx : a.eval x = .pointer (some ⟨g, 0, none⟩)) (t : TypeId) (cs : Array Value) (d : TypeDesc) (hg : W.heap[g]? = some (.cells cs t (0, 0)))
    (hu : P.underlying ty = some d) (hd : (match d with | .struct _ | .array _ _ => true | _ => false) = true) (hi : (P.info? ty).map (·.size) = some cs.size) (h : K (a.put o.dst (.agg cs)) W) :
    if Region.wanted o (yielded ops a.tmps) = true then Oper.wp P o a W K Q else D := by
  rw [if_pos hw]
  exact wp_load_row ty x ho g hx t cs (0, 0) d hg hu hd hi h
theorem st_store_row {W : World} {D : Prop} (ty : TypeId) (x y : Operand) (ho : o.op = .store ty x y) (hw : Region.wanted o (yielded ops a.tmps) = true) (g : Nat) (cells : Array Value) (hx : a.eval x = .pointer (some ⟨g, 0, none⟩)) (hy : a.eval y = .agg cells)
    (t : TypeId) (old : Array Value) (hg : W.heap[g]? = some (.cells old t (0, 0))) (hi : (P.info? ty).map (·.size) = some cells.size) (hold : old.size = cells.size) (h1 : cells.all (·.oneCell') = true)
    (h : ∀ w1, w1.heap[g]? = some (.cells cells t (0, 0)) → Mod (fun k => k = g) W w1 → K (a.put o.dst undef) w1) :
    if Region.wanted o (yielded ops a.tmps) = true then Oper.wp P o a W K Q else D := by
  rw [if_pos hw]
  obtain ⟨h2, h3⟩ := row_mod g old cells t hg
  exact wp_store_row ty x y ho g cells hx hy t old hg hi hold h1 (h _ h2 h3)
end
def fst (i : Nat) : List (List Fr) → Int × Fr × Bool
  | [] => (-1, z, false)
  | [] :: r => fst (i + 1) r
  | (x :: _) :: _ => ((i : Int), x, true)
theorem fst_empty {i : Nat} {xss : List (List Fr)} (hx : xss[i]? = some []) : fst i (xss.drop i) = fst (i + 1) (xss.drop (i + 1)) := by
  have hl := (List.getElem?_eq_some_iff.1 hx).1
  rw [List.drop_eq_getElem_cons hl, show xss[i] = [] from (List.getElem?_eq_some_iff.1 hx).2, fst]
theorem fst_some {i : Nat} {xss : List (List Fr)} {x : Fr} {xs : List Fr} (hx : xss[i]? = some (x :: xs)) : fst i (xss.drop i) = ((i : Int), x, true) := by
  have hl := (List.getElem?_eq_some_iff.1 hx).1
  rw [List.drop_eq_getElem_cons hl, show xss[i] = x :: xs from (List.getElem?_eq_some_iff.1 hx).2, fst]
theorem fst_end {i : Nat} {xss : List (List Fr)} (hi : i = xss.length) : fst i (xss.drop i) = (-1, z, false) := by
  rw [hi, List.drop_length, fst]
theorem res25 (g : Nat) (r : Int) (x : Fr) (b : Bool) (tmps : Array Value) (w : World) (hr : tmps.getD 2 undef = .int .i64 r) (hp : tmps.getD 3 undef = .pointer (some ⟨g, 0, none⟩)) (hb : tmps.getD 4 undef = .bool b) (hg : w.heap[g]? = some (.cells (cl x).toArray 44 (0, 0))) :
    (results Try.f25 tmps).run Try.prog w = .ok (.tuple #[.int .i64 r, .agg (cl x).toArray, .bool b]) w := by
  have hp' : tmps[3]?.getD undef = .pointer (some ⟨g, 0, none⟩) := by simpa using hp
  have hr' : tmps[2]?.getD undef = .int .i64 r := by simpa using hr
  have hb' : tmps[4]?.getD undef = .bool b := by simpa using hb
  simp [results, Try.f25, hp', hr', hb', asAddr, run_loadVar_row w g 44 44 (cl x).toArray (0, 0) _ hg Try.underlying44 rfl (by kernel_rfl)]
theorem Bxs.side {w W : World} {bs : List (Option (Nat × Nat))} {xss : List (List Fr)} (h : Bxs w bs xss) {g : Nat} {cur : Array Value} (hm : Mod (fun k => k = g) w W) (hg : w.heap[g]? = some (.cells cur 44 (0, 0))) : Bxs W bs xss :=
  ⟨h.len, fun i p hp => by
    obtain ⟨xs, h1, h2⟩ := h.box i p hp
    refine ⟨xs, h1, h2.mod hm (fun e => ?_) (fun e => h.cells hg (by rw [← e]; exact ⟨i, p.1, hp⟩))⟩
    have := h2.blk
    rw [e, hg] at this
    injection this with this
    injection this with _ this
    exact absurd this (by decide), h.nil, h.diff⟩
theorem Row.side {w W : World} {bs : List (Option (Nat × Nat))} {b n g : Nat} (h : Row w (some ⟨b, 0, none⟩) n bs) (hm : Mod (fun k => k = g) w W) (hg : b ≠ g) : Row W (some ⟨b, 0, none⟩) n bs :=
  ⟨h.len, fun hn => by
    obtain ⟨b', cur, t, h1, h2, h3⟩ := h.at_ hn
    obtain rfl : b = b' := by injection h1 with h1; injection h1
    exact ⟨b, cur, t, rfl, hm.blk h2 (fun e => hg e), h3⟩⟩
theorem Row.lt {w : World} {bs : List (Option (Nat × Nat))} {b n : Nat} (h : Row w (some ⟨b, 0, none⟩) n bs) (hn : 0 < n) : b < w.heap.size := by
  obtain ⟨b', cur, t, h1, h2, h3⟩ := h.at_ hn
  obtain rfl : b = b' := by injection h1 with h1; injection h1
  exact blk_lt h2
theorem put9 {w : World} {g : Nat} (h : w.heap[g]? = some (.cells (cl z).toArray 44 (0, 0))) (y : Fr) : (((((((((w.setCell ⟨g, 0, none⟩ (.int .i64 y.f0)).setCell ⟨g, 1, none⟩ (.int .i64 y.f1)).setCell ⟨g, 2, none⟩ (.int .i64 y.f2)).setCell ⟨g, 3, none⟩ (.int .i64 y.f3)).setCell ⟨g, 4, none⟩ (.int .i64 y.f4)).setCell ⟨g, 5, none⟩ (.int .i64 y.f5)).setCell ⟨g, 6, none⟩ (.string y.f6)).setCell ⟨g, 7, none⟩ (.int .i64 y.f7)).setCell ⟨g, 8, none⟩ (.string y.f8)).heap[g]? = some (.cells (cl y).toArray 44 (0, 0)) :=
  (blk_put (cs := #[.int .i64 y.f0, .int .i64 y.f1, .int .i64 y.f2, .int .i64 y.f3, .int .i64 y.f4, .int .i64 y.f5, .string y.f6, .int .i64 y.f7, .string ⟨#[]⟩]) (blk_put (cs := #[.int .i64 y.f0, .int .i64 y.f1, .int .i64 y.f2, .int .i64 y.f3, .int .i64 y.f4, .int .i64 y.f5, .string y.f6, .int .i64 0, .string ⟨#[]⟩]) (blk_put (cs := #[.int .i64 y.f0, .int .i64 y.f1, .int .i64 y.f2, .int .i64 y.f3, .int .i64 y.f4, .int .i64 y.f5, .string ⟨#[]⟩, .int .i64 0, .string ⟨#[]⟩]) (blk_put (cs := #[.int .i64 y.f0, .int .i64 y.f1, .int .i64 y.f2, .int .i64 y.f3, .int .i64 y.f4, .int .i64 0, .string ⟨#[]⟩, .int .i64 0, .string ⟨#[]⟩]) (blk_put (cs := #[.int .i64 y.f0, .int .i64 y.f1, .int .i64 y.f2, .int .i64 y.f3, .int .i64 0, .int .i64 0, .string ⟨#[]⟩, .int .i64 0, .string ⟨#[]⟩]) (blk_put (cs := #[.int .i64 y.f0, .int .i64 y.f1, .int .i64 y.f2, .int .i64 0, .int .i64 0, .int .i64 0, .string ⟨#[]⟩, .int .i64 0, .string ⟨#[]⟩]) (blk_put (cs := #[.int .i64 y.f0, .int .i64 y.f1, .int .i64 0, .int .i64 0, .int .i64 0, .int .i64 0, .string ⟨#[]⟩, .int .i64 0, .string ⟨#[]⟩]) (blk_put (cs := #[.int .i64 y.f0, .int .i64 0, .int .i64 0, .int .i64 0, .int .i64 0, .int .i64 0, .string ⟨#[]⟩, .int .i64 0, .string ⟨#[]⟩]) (blk_put (cs := (cl z).toArray) h 0 _ rfl) 1 _ rfl) 2 _ rfl) 3 _ rfl) 4 _ rfl) 5 _ rfl) 6 _ rfl) 7 _ rfl) 8 _ rfl)
theorem mod9 (w : World) (g : Nat) (y : Fr) : Mod (fun k => k = g) w (((((((((w.setCell ⟨g, 0, none⟩ (.int .i64 y.f0)).setCell ⟨g, 1, none⟩ (.int .i64 y.f1)).setCell ⟨g, 2, none⟩ (.int .i64 y.f2)).setCell ⟨g, 3, none⟩ (.int .i64 y.f3)).setCell ⟨g, 4, none⟩ (.int .i64 y.f4)).setCell ⟨g, 5, none⟩ (.int .i64 y.f5)).setCell ⟨g, 6, none⟩ (.string y.f6)).setCell ⟨g, 7, none⟩ (.int .i64 y.f7)).setCell ⟨g, 8, none⟩ (.string y.f8)) :=
  (Mod.setCell (p := ⟨g, 8, none⟩) (Mod.setCell (p := ⟨g, 7, none⟩) (Mod.setCell (p := ⟨g, 6, none⟩) (Mod.setCell (p := ⟨g, 5, none⟩) (Mod.setCell (p := ⟨g, 4, none⟩) (Mod.setCell (p := ⟨g, 3, none⟩) (Mod.setCell (p := ⟨g, 2, none⟩) (Mod.setCell (p := ⟨g, 1, none⟩) (Mod.setCell (p := ⟨g, 0, none⟩) (Mod.refl (fun k => k = g) w) (.inl rfl) _) (.inl rfl) _) (.inl rfl) _) (.inl rfl) _) (.inl rfl) _) (.inl rfl) _) (.inl rfl) _) (.inl rfl) _) (.inl rfl) _)
theorem put9d {w : World} {g : Nat} (h : w.heap[g]? = some (.cells (cl z).toArray 44 (0, 0))) (y : Fr) : (((((((((w.setCell ⟨g, 0, none⟩ (.int .i64 y.f0)).setCell ⟨g, 1, none⟩ (.int .i64 y.f1)).setCell ⟨g, 2, none⟩ (.int .i64 y.f2)).setCell ⟨g, 3, none⟩ (.int .i64 y.f3)).setCell ⟨g, 4, none⟩ (.int .i64 y.f4)).setCell ⟨g, 5, none⟩ (.int .i64 y.f5)).setCell ⟨g, 6, none⟩ (.string y.f6)).setCell ⟨g, 7, none⟩ (.int .i64 y.f7)).setCell ⟨g, 8, none⟩ (.string y.f8)).drew.heap[g]? = some (.cells (cl y).toArray 44 (0, 0)) := blk_drew (put9 h y)
theorem mod9d (w : World) (g : Nat) (y : Fr) : Mod (fun k => k = g) w (((((((((w.setCell ⟨g, 0, none⟩ (.int .i64 y.f0)).setCell ⟨g, 1, none⟩ (.int .i64 y.f1)).setCell ⟨g, 2, none⟩ (.int .i64 y.f2)).setCell ⟨g, 3, none⟩ (.int .i64 y.f3)).setCell ⟨g, 4, none⟩ (.int .i64 y.f4)).setCell ⟨g, 5, none⟩ (.int .i64 y.f5)).setCell ⟨g, 6, none⟩ (.string y.f6)).setCell ⟨g, 7, none⟩ (.int .i64 y.f7)).setCell ⟨g, 8, none⟩ (.string y.f8)).drew := (mod9 w g y).drew
/-- The loop: the first i boxes are empty. -/
def FirstAt (w0 : World) (A : Option Addr) (n g3 : Nat) (bs : List (Option (Nat × Nat))) (xss : List (List Fr)) (F : Int × Fr × Bool) (k : Nat) (s11 : Value) (wr : World) : Prop :=
  ∃ i : Nat, s11 = .int .i64 (i : Int) ∧ i + k = n ∧ Bxs wr bs xss ∧ Row wr A n bs ∧ wr.heap[g3]? = some (.cells (cl z).toArray 44 (0, 0)) ∧ Mod (Chs bs) w0 wr ∧ fst i (xss.drop i) = F
set_option maxHeartbeats 8000000 in
set_option maxRecDepth 100000 in
theorem first_calls (A : Option Addr) (n cap : Nat) (bs : List (Option (Nat × Nat))) (xss : List (List Fr)) (w : World) (hX : Bxs w bs xss) (hR : Row w A n bs) (hn : n ≤ 1000) (r : Int) (x : Fr) (b : Bool) (hF : fst 0 xss = (r, x, b)) :
    Calls Try.prog 25 #[.slice A n cap] w fun e w' => e = .returned (.tuple #[.int .i64 r, .agg (cl x).toArray, .bool b]) ∧ Mod (Chs bs) w w' := by
  have hu44 := Try.underlying44
  have HX := Aside0.mk hX
  have HR := Aside0.mk hR
  have HF := Aside0.mk hF
  have BL := Aside0.mk (show bs.length = n ∧ xss.length = n from ⟨hR.len, hX.len.trans hR.len⟩)
  clear hX hR hF
  go_enter Try.func25, Try.ntmps25
  go_wp2_with (refine gate_ (.alloc 44) rfl ?_; refine box_event ?hg (N := 3) ?hd (cs := (cl z).toArray) (t := 44) ?hr ?_; (case hd => rfl); (case hg => rfl); (case hr => first | (go_simp; done) | (go_simp; rfl)); intro g3 hgb w_1 hbox hb; have HA := Aside0.mk (show FirstAt w A n g3 bs xss (r, x, b) n (.int .i64 0) w_1 from ⟨0, rfl, by omega, HX.out.below hb, HR.out.below hb, hbox, Mod.of_below hb _, HF.out⟩); have HG := Aside0.mk hgb; clear hgb hbox hb)
  go_step3
  go_wp2
  go_step3
  go_wp2
  go_loopg [11] n (fun k s11 wr => FirstAt w A n g3 bs xss (r, x, b) k s11 wr)
  case atStart => exact HA.out
  case round =>
    clear HX HR HF HA
    obtain ⟨i, rfl, hik, hX, hR, hK, hM, hF⟩ := hrel
    have HX := Aside0.mk hX
    have HR := Aside0.mk hR
    have HK := Aside0.mk hK
    have HM := Aside0.mk hM
    by_cases hlt : i < n
    · have N0 := Aside0.mk (show 0 < n by omega)
      have t1 : decide ((i : Int) < (n : Int)) = true := decide_eq_true (by omega)
      obtain ⟨p, hp⟩ : ∃ p, bs[i]? = some p := ⟨_, List.getElem?_eq_getElem (by have := BL.out.1; omega)⟩
      obtain ⟨ba, rfl, hc⟩ := hR.cell hp
      cases p with
      | none =>
        have hx := hX.nil i hp
        have HF := Aside0.mk ((fst_empty hx).symm.trans hF)
        simp only [pv] at hc
        clear hX hR hK hM hF hp hx
        go_wp2_with fail
        go_roundg (n - (i + 1))
        case measure => omega
        case rel => exact ⟨i + 1, by go_num, by omega, HX.out, HR.out, HK.out, HM.out, HF.out⟩
      | some q =>
        obtain ⟨g, c⟩ := q
        obtain ⟨xs, hx, _⟩ := hX.box i _ hp
        simp only [pv] at hc
        have HP := Aside0.mk hp
        have HXI := Aside0.mk hx
        cases xs with
        | nil =>
          have HF := Aside0.mk ((fst_empty hx).symm.trans hF)
          clear hX hR hK hM hF hp hx
          go_wp2_with (first | (go_at_call 23; (with_reducible refine (take_at HX.out HP.out HXI.out false z (.inl rfl)).mono ?_); rintro e_1 w_1 ⟨rfl, hx2, hm⟩; have HX_n := Aside0.mk (show Bxs w_1 bs xss from by rw [List.tail_nil, set_same HXI.out] at hx2; exact hx2); have HR_n := Aside0.mk (HR.out.mod HX.out hm); have HK_n := Aside0.mk (hm.blk HK.out (HX.out.cells HK.out)); have HM_n := Aside0.mk (HM.out.trans hm (fun k hk => .inl hk)); clear HX HR HK HM; have HX := HX_n; have HR := HR_n; have HK := HK_n; have HM := HM_n; clear HX_n HR_n HK_n HM_n hx2 hm) | (refine gate_ (.alloc 44) rfl ?_; refine box_event ?hg (N := 7) ?hd (cs := (cl z).toArray) (t := 44) ?hr ?_; (case hd => rfl); (case hg => rfl); (case hr => first | (go_simp; done) | (go_simp; rfl)); intro g7 hgb w_1 hbox hb; have K7 := Aside0.mk hbox; have N7 := Aside0.mk (show g3 ≠ g7 from by rw [hgb]; exact Nat.ne_of_lt (blk_lt HK.out)); have S7 := Aside0.mk (show w.heap.size ≤ g7 from by rw [hgb]; exact HM.out.size); have HX_n := Aside0.mk (HX.out.below hb); have HK0 := Aside0.mk (show ba ≠ g7 from by rw [hgb]; exact Nat.ne_of_lt (HR.out.lt N0.out)); have HR_n := Aside0.mk (HR.out.below hb); clear HR; have HR := HR_n; clear HR_n; have HK_n := Aside0.mk ((hb.block _ (blk_lt HK.out)).trans HK.out); have HM_n := Aside0.mk (HM.out.then_below hb); clear HX HK HM; have HX := HX_n; have HK := HK_n; have HM := HM_n; clear HX_n HK_n HM_n hgb hbox hb) | (refine ev_store_row (.store 44 (.tmp 7) (.tmp 21)) rfl rfl rfl 44 (.tmp 7) (.tmp 21) rfl g7 (cl z).toArray rfl rfl 44 (cl z).toArray K7.out (by kernel_rfl) rfl (cl_all _) ?_; intro w_2 hw2 hm2; have HX_n := Aside0.mk (HX.out.side hm2 K7.out); have HR_n := Aside0.mk (HR.out.side hm2 HK0.out); clear HR; have HR := HR_n; clear HR_n; have HK_n := Aside0.mk (hm2.blk HK.out N7.out); have HM_n := Aside0.mk (HM.out.trans hm2 (fun k hk => .inr (by rw [hk]; exact S7.out))); clear HX HK HM K7; have HX := HX_n; have HK := HK_n; have HM := HM_n; have K7 := Aside0.mk hw2; clear HX_n HK_n HM_n hw2 hm2))
          go_roundg (n - (i + 1))
          case measure => omega
          case rel => exact ⟨i + 1, by go_num, by omega, HX.out, HR.out, HK.out, HM.out, HF.out⟩
        | cons y ys =>
          rw [fst_some hx] at hF
          simp only [Prod.mk.injEq] at hF
          obtain ⟨rfl, rfl, rfl⟩ := hF
          clear hX hR hK hM hp hx
          go_wp2_with (first | (go_at_call 23; (with_reducible refine (take_at HX.out HP.out HXI.out true _ (.inr rfl)).mono ?_); rintro e_1 w_1 ⟨rfl, hx2, hm⟩; have HK_n := Aside0.mk (hm.blk HK.out (HX.out.cells HK.out)); have HM_n := Aside0.mk (HM.out.trans hm (fun k hk => .inl hk)); clear HX HR HK HM; have HX := Aside0.mk hx2; have HK := HK_n; have HM := HM_n; clear HK_n HM_n hx2 hm) | (refine gate_ (.alloc 44) rfl ?_; refine box_event ?hg (N := 7) ?hd (cs := (cl z).toArray) (t := 44) ?hr ?_; (case hd => rfl); (case hg => rfl); (case hr => first | (go_simp; done) | (go_simp; rfl)); intro g7 hgb w_1 hbox hb; have K7 := Aside0.mk hbox; have N7 := Aside0.mk (show g3 ≠ g7 from by rw [hgb]; exact Nat.ne_of_lt (blk_lt HK.out)); have S7 := Aside0.mk (show w.heap.size ≤ g7 from by rw [hgb]; exact HM.out.size); have HX_n := Aside0.mk (HX.out.below hb);  have HK_n := Aside0.mk ((hb.block _ (blk_lt HK.out)).trans HK.out); have HM_n := Aside0.mk (HM.out.then_below hb); clear HX HK HM; have HX := HX_n; have HK := HK_n; have HM := HM_n; clear HX_n HK_n HM_n hgb hbox hb) | (refine ev_store_row (.store 44 (.tmp 7) (.tmp 21)) rfl rfl rfl 44 (.tmp 7) (.tmp 21) rfl g7 (cl y).toArray rfl rfl 44 (cl z).toArray K7.out (by kernel_rfl) rfl (cl_all _) ?_; intro w_2 hw2 hm2; have HX_n := Aside0.mk (HX.out.side hm2 K7.out);  have HK_n := Aside0.mk (hm2.blk HK.out N7.out); have HM_n := Aside0.mk (HM.out.trans hm2 (fun k hk => .inr (by rw [hk]; exact S7.out))); clear HX HK HM K7; have HX := HX_n; have HK := HK_n; have HM := HM_n; have K7 := Aside0.mk hw2; clear HX_n HK_n HM_n hw2 hm2))
          have k0 := (blk_cell K7.out 0).trans (show (cl y).toArray[0]? = some (Value.int .i64 y.f0) from rfl)
          have z0 := (blk_cell HK.out 0).trans (show (cl z).toArray[0]? = some (Value.int .i64 0) from rfl)
          have q0 := blk_frozen HK.out 0
          have k1 := (blk_cell K7.out 1).trans (show (cl y).toArray[1]? = some (Value.int .i64 y.f1) from rfl)
          have z1 := (blk_cell HK.out 1).trans (show (cl z).toArray[1]? = some (Value.int .i64 0) from rfl)
          have q1 := blk_frozen HK.out 1
          have k2 := (blk_cell K7.out 2).trans (show (cl y).toArray[2]? = some (Value.int .i64 y.f2) from rfl)
          have z2 := (blk_cell HK.out 2).trans (show (cl z).toArray[2]? = some (Value.int .i64 0) from rfl)
          have q2 := blk_frozen HK.out 2
          have k3 := (blk_cell K7.out 3).trans (show (cl y).toArray[3]? = some (Value.int .i64 y.f3) from rfl)
          have z3 := (blk_cell HK.out 3).trans (show (cl z).toArray[3]? = some (Value.int .i64 0) from rfl)
          have q3 := blk_frozen HK.out 3
          have k4 := (blk_cell K7.out 4).trans (show (cl y).toArray[4]? = some (Value.int .i64 y.f4) from rfl)
          have z4 := (blk_cell HK.out 4).trans (show (cl z).toArray[4]? = some (Value.int .i64 0) from rfl)
          have q4 := blk_frozen HK.out 4
          have k5 := (blk_cell K7.out 5).trans (show (cl y).toArray[5]? = some (Value.int .i64 y.f5) from rfl)
          have z5 := (blk_cell HK.out 5).trans (show (cl z).toArray[5]? = some (Value.int .i64 0) from rfl)
          have q5 := blk_frozen HK.out 5
          have k6 := (blk_cell K7.out 6).trans (show (cl y).toArray[6]? = some (Value.string y.f6) from rfl)
          have z6 := (blk_cell HK.out 6).trans (show (cl z).toArray[6]? = some (Value.string ⟨#[]⟩) from rfl)
          have q6 := blk_frozen HK.out 6
          have k7 := (blk_cell K7.out 7).trans (show (cl y).toArray[7]? = some (Value.int .i64 y.f7) from rfl)
          have z7 := (blk_cell HK.out 7).trans (show (cl z).toArray[7]? = some (Value.int .i64 0) from rfl)
          have q7 := blk_frozen HK.out 7
          have k8 := (blk_cell K7.out 8).trans (show (cl y).toArray[8]? = some (Value.string y.f8) from rfl)
          have z8 := (blk_cell HK.out 8).trans (show (cl z).toArray[8]? = some (Value.string ⟨#[]⟩) from rfl)
          have q8 := blk_frozen HK.out 8
          have n7 := N7.out
          go_region
          all_goals
            go_wp2
            try rw [Exit.noGoto_ret]
            refine bodyPost_ret (res25 g3 i y true _ _ rfl rfl rfl (put9d HK.out y)) rfl ?_
            exact ⟨rfl, HM.out.trans (mod9d _ g3 y) (fun k hk => .inr (by rw [hk, HG.out]; exact Nat.le_refl _))⟩
    · obtain rfl : i = n := by omega
      have t1 : decide ((i : Int) < (i : Int)) = false := decide_eq_false (by omega)
      rw [fst_end BL.out.2.symm] at hF
      simp only [Prod.mk.injEq] at hF
      obtain ⟨rfl, rfl, rfl⟩ := hF
      clear hX hR hK hM
      go_wp2_with (refine ev_store_row (.store 44 (.tmp 3) (.tmp 27)) rfl rfl rfl 44 (.tmp 3) (.tmp 27) rfl g3 (cl z).toArray rfl rfl 44 (cl z).toArray HK.out (by kernel_rfl) rfl (cl_all z) ?_; intro w_2 hw2 hm2; have HKY := Aside0.mk hw2; have HM_n := Aside0.mk (HM.out.trans hm2 (fun k hk => .inr (by rw [hk, HG.out]; exact Nat.le_refl _))); clear HM; have HM := HM_n; clear HM_n hw2 hm2)
      try rw [Exit.noGoto_ret]
      refine bodyPost_ret (res25 g3 (-1) z false _ _ rfl rfl rfl HKY.out) rfl ?_
      exact ⟨rfl, HM.out⟩
end Go.Proofs.Ytnfnbcbbiaheeaa.Ml
