/- GatherRuns answers true. -/
import Derived.Test.YtnndpjicbcailaaGa3
namespace Go.Proofs.Ytnndpjicbcailaa.Ga
open Go.RowKit Go.Proofs.YtnndpjicbcailaaW.PrintWords Go.Proofs.YtnndpjicbcailaaW.PrintLast Go.Proofs.YtnndpjicbcailaaW.PrintMore Go.Proofs.Ytnndpjicbcailaa.Lib Go.Proofs.Ytnndpjicbcailaa.Open
theorem Gt.gs {B : Nat} {W : World} {g k d : Nat} {pl : List Int} {a aw : Nat} {ps : List Pt} (h : Gt B W g k d pl a aw ps) : Gs B W (fun q => q = g) := fun q hq => by
  obtain ⟨_, _, h⟩ := h
  subst hq
  exact ⟨h.ge, _, _, h.blk, .inl rfl⟩
/-- A row of numbers stays. -/
theorem own_gs {W W1 : World} {B B' n : Nat} {v : Value} {xs : List Value} {S : Nat → Prop} (h : W.ownsRow B' 3 1 v n xs) (hm : Mod S W W1) (hs : Gs B W S) : W1.ownsRow B' 3 1 v n xs :=
  hm.own h (fun k hk e' => by
    obtain ⟨_, cur, t, h1, h2⟩ := hs k e'
    obtain ⟨c, hc⟩ := own_typed h k hk
    rw [h1] at hc
    injection hc with hc
    injection hc with _ hc
    rw [hc] at h2
    rcases h2 with h2 | h2 <;> exact absurd h2 (by decide))
theorem gs_after {w0 W W1 : World} {B : Nat} {S : Nat → Prop} (hb : Below w0.heap.size w0 W) (hm : Mod S W W1) (hs : Gs B W S) (hB : w0.heap.size ≤ B) : Below w0.heap.size w0 W1 := hm.after hb hb.size (fun q hq => Nat.le_trans hB (hs q hq).1)
theorem state_is (B g k d : Nat) (pl : List Int) (a aw : Nat) (ps : List Pt) (w : World) (h : Gt B w g k d pl a aw ps) (r : Int) (hr : st k ps.length a pl.length aw = r) :
    Calls Try.prog 11 #[.pointer (some ⟨g, 0, none⟩)] w fun e w' => e = .returned (.int .i64 r) ∧ Below w.heap.size w w' := by
  subst hr
  exact state_calls B g k d pl a aw ps w h
theorem ok4 : ∀ (i : Nat) (x : Int), ([0, 1, 2, 3] : List Int)[i]? = some x → 0 ≤ x ∧ x < 12 ∧ (([0, 1, 2, 3] : List Int).take i).contains x = false := fun i x h => by
  rcases i with _ | _ | _ | _ | i
  · obtain rfl : 0 = x := by simpa using h
    exact ⟨by decide, by decide, rfl⟩
  · obtain rfl : 1 = x := by simpa using h
    exact ⟨by decide, by decide, by decide⟩
  · obtain rfl : 2 = x := by simpa using h
    exact ⟨by decide, by decide, by decide⟩
  · obtain rfl : 3 = x := by simpa using h
    exact ⟨by decide, by decide, by decide⟩
  · simp at h
theorem rd4 (w : World) (a b c d : Int) : Rd (w.alloc (.cells #[.int .i64 a, .int .i64 b, .int .i64 c, .int .i64 d] 3)) (some ⟨w.heap.size, 0, none⟩) 4 [a, b, c, d] := Rd.of_blk (l := [a, b, c, d]) (blk_new w (.cells #[.int .i64 a, .int .i64 b, .int .i64 c, .int .i64 d] 3)) (by simp)
theorem rd3 (w : World) (a b c : Int) : Rd (w.alloc (.cells #[.int .i64 a, .int .i64 b, .int .i64 c] 3)) (some ⟨w.heap.size, 0, none⟩) 3 [a, b, c] := Rd.of_blk (l := [a, b, c]) (blk_new w (.cells #[.int .i64 a, .int .i64 b, .int .i64 c] 3)) (by simp)
theorem rd1 (w : World) (a : Int) : Rd (w.alloc (.cells #[.int .i64 a] 3)) (some ⟨w.heap.size, 0, none⟩) 1 [a] := Rd.of_blk (l := [a]) (blk_new w (.cells #[.int .i64 a] 3)) (by simp)
theorem rp2 (w : World) (a b : Int) (x y : ByteArray) : Rp (w.alloc (.cells #[.int .i64 a, .string x, .int .i64 b, .string y] 33)) (some ⟨w.heap.size, 0, none⟩) 2 [⟨a, x⟩, ⟨b, y⟩] := rp_blk (ps := [⟨a, x⟩, ⟨b, y⟩]) (blk_new w (.cells #[.int .i64 a, .string x, .int .i64 b, .string y] 33)) (by simp)
theorem size_alloc (w : World) (o : Obj) : w.heap.size ≤ (w.alloc o).heap.size := by simp
set_option maxHeartbeats 8000000 in
set_option maxRecDepth 100000 in
theorem runs_calls (w : World) : Calls Try.prog 3 #[] w fun e w' => e = .returned (.bool true) ∧ Below w.heap.size w w' := by
  have E2 := Aside0.mk (show (2 : Int) = ((2 : Nat) : Int) from rfl)
  have E1 := Aside0.mk (show (1 : Int) = ((1 : Nat) : Int) from rfl)
  have N3 := Aside0.mk (show nx 2 1 ([] : List Pt).length 0 ([0, 1, 2, 3] : List Int).length 0 = 3 from rfl)
  have N1 := Aside0.mk (show nx 2 1 ([⟨2, ⟨#[99]⟩⟩] : List Pt).length 3 ([0, 1, 2, 3] : List Int).length 1 = 1 from rfl)
  have S1 := Aside0.mk (show st 2 ([⟨2, ⟨#[99]⟩⟩, ⟨1, ⟨#[98]⟩⟩] : List Pt).length 4 ([0, 1, 2, 3] : List Int).length 1 = 1 from rfl)
  go_enter Try.func3, Try.ntmps3
  go_wp2_with (first | (go_at_call 7; (with_reducible refine (new_ok 2 1 _ 4 4 [0, 1, 2, 3] _ (by decide) (by decide) (by decide) (by decide) (rd4 w 0 1 2 3) (by decide) ok4 _ _ E2.out E1.out).mono ?_); rintro e_1 w_1 ⟨g, rfl, hg, hge, hb⟩; have HG := Aside0.mk hg; have HB := Aside0.mk (below_then (below_alloc (Below.refl _ _) _) (size_alloc _ _) hb); have HS := Aside0.mk (size_alloc w (.cells #[.int .i64 0, .int .i64 1, .int .i64 2, .int .i64 3] 3)); clear hg hge hb) | (go_at_call 8; (with_reducible refine (next_calls _ g 2 1 [0, 1, 2, 3] 0 0 [] _ HG.out 3 N3.out).mono ?_); rintro e_1 w_1 ⟨v, rfl, ho, hg, hm⟩; obtain ⟨Aa, ca, rfl⟩ := own_slice ho; have HA := Aside0.mk ho; have HB_n := Aside0.mk (gs_after HB.out hm HG.out.gs HS.out); clear HB HG; have HB := HB_n; have HG := Aside0.mk hg; clear HB_n ho hg hm) | (go_at_call 9; (with_reducible refine (got_add _ g 2 1 [0, 1, 2, 3] 3 2 [] _ HG.out 2 ⟨#[99]⟩ (by decide) (by decide)).mono ?_); rintro e_1 w_1 ⟨rfl, hg, S, hs, hm⟩; have HB_n := Aside0.mk (gs_after HB.out hm hs HS.out); have HA_n := Aside0.mk (own_gs HA.out hm hs); clear HB HG HA; have HB := HB_n; have HA := HA_n; have HG := Aside0.mk hg; clear HB_n HA_n hg hs hm) | (go_at_call 9; (with_reducible refine (got_skip _ g 2 1 [0, 1, 2, 3] 3 1 [⟨2, ⟨#[99]⟩⟩] _ HG.out 0 false ⟨#[]⟩ (by decide) (.inl rfl)).mono ?_); rintro e_1 w_1 ⟨rfl, hg, S, hs, hm⟩; have HB_n := Aside0.mk (gs_after HB.out hm hs HS.out); have HA_n := Aside0.mk (own_gs HA.out hm hs); clear HB HG HA; have HB := HB_n; have HA := HA_n; have HG := Aside0.mk hg; clear HB_n HA_n hg hs hm) | (go_at_call 8; (with_reducible refine (next_calls _ g 2 1 [0, 1, 2, 3] 3 1 [⟨2, ⟨#[99]⟩⟩] _ HG.out 1 N1.out).mono ?_); rintro e_1 w_1 ⟨v, rfl, ho, hg, hm⟩; obtain ⟨Ab, cb, rfl⟩ := own_slice ho; have HBB := Aside0.mk ho; have HA_n := Aside0.mk (own_gs HA.out hm HG.out.gs); have HB_n := Aside0.mk (gs_after HB.out hm HG.out.gs HS.out); clear HB HG HA; have HB := HB_n; have HA := HA_n; have HG := Aside0.mk hg; clear HB_n HA_n ho hg hm) | (go_at_call 9; (with_reducible refine (got_add _ g 2 1 [0, 1, 2, 3] 4 1 [⟨2, ⟨#[99]⟩⟩] _ HG.out 1 ⟨#[98]⟩ (by decide) (by decide)).mono ?_); rintro e_1 w_1 ⟨rfl, hg, S, hs, hm⟩; have HB_n := Aside0.mk (gs_after HB.out hm hs HS.out); have HA_n := Aside0.mk (own_gs HA.out hm hs); have HC_n := Aside0.mk (own_gs HBB.out hm hs); clear HB HG HA HBB; have HB := HB_n; have HA := HA_n; have HC := HC_n; have HG := Aside0.mk hg; clear HB_n HA_n HC_n hg hs hm) | (go_at_call 10; (with_reducible refine (same_calls Aa 3 ca _ 3 3 [0, 1, 2] _ (own_rd (pw_own_below HA.out (below_alloc (Below.refl _ _) _)) rfl (by decide)) (rd3 _ 0 1 2) (own_cap HA.out) (by decide) (by decide)).mono ?_); rintro e_1 w_1 ⟨rfl, hd⟩; have hb := below_then (below_alloc (Below.refl _ _) _) (size_alloc _ _) hd.below; have HB_n := Aside0.mk (below_step HB.out hb); have HC_n := Aside0.mk (pw_own_below HC.out hb); have HG_n := Aside0.mk (HG.out.far hb); clear HB HG HA HC; have HB := HB_n; have HC := HC_n; have HG := HG_n; clear HB_n HC_n HG_n hd hb) | (go_at_call 10; (with_reducible refine (same_calls Ab 1 cb _ 1 1 [3] _ (own_rd (pw_own_below HC.out (below_alloc (Below.refl _ _) _)) rfl (by decide)) (rd1 _ 3) (own_cap HC.out) (by decide) (by decide)).mono ?_); rintro e_1 w_1 ⟨rfl, hd⟩; have hb := below_then (below_alloc (Below.refl _ _) _) (size_alloc _ _) hd.below; have HB_n := Aside0.mk (below_step HB.out hb); have HG_n := Aside0.mk (HG.out.far hb); clear HB HG HC; have HB := HB_n; have HG := HG_n; clear HB_n HG_n hd hb) | (go_at_call 11; (with_reducible refine (state_is _ g 2 1 [0, 1, 2, 3] 4 1 [⟨2, ⟨#[99]⟩⟩, ⟨1, ⟨#[98]⟩⟩] _ HG.out 1 S1.out).mono ?_); rintro e_1 w_1 ⟨rfl, hb⟩; have HB_n := Aside0.mk (below_step HB.out hb); have HG_n := Aside0.mk (HG.out.far hb); clear HB HG; have HB := HB_n; have HG := HG_n; clear HB_n HG_n hb) | (go_at_call 13; (with_reducible refine (parts_calls _ g 2 1 [0, 1, 2, 3] 4 1 [⟨2, ⟨#[99]⟩⟩, ⟨1, ⟨#[98]⟩⟩] _ HG.out).mono ?_); rintro e_1 w_1 ⟨v, rfl, ho, hb⟩; obtain ⟨Ap, cp, rfl⟩ := own_slice ho; have HP := Aside0.mk ho; have HB_n := Aside0.mk (below_step HB.out hb); clear HB HG; have HB := HB_n; clear HB_n ho hb) | (go_at_call 12; (with_reducible refine (sameP_calls Ap 2 cp _ 2 2 [⟨2, ⟨#[99]⟩⟩, ⟨1, ⟨#[98]⟩⟩] _ (own_rp (pw_own_below HP.out (below_alloc (Below.refl _ _) _)) rfl (by decide)) (rp2 _ 2 1 ⟨#[99]⟩ ⟨#[98]⟩) (own_cap HP.out) (by decide) (by decide)).mono ?_); rintro e_1 w_1 ⟨rfl, hd⟩; have hb := below_then (below_alloc (Below.refl _ _) _) (size_alloc _ _) hd.below; have HB_n := Aside0.mk (below_step HB.out hb); clear HB HP; have HB := HB_n; clear HB_n hd hb))
  go_ret
  exact ⟨rfl, HB.out⟩
end Go.Proofs.Ytnndpjicbcailaa.Ga
