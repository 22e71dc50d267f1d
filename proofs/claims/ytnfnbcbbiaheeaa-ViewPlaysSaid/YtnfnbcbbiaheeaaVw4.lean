/- ViewRuns answers true. -/
import Derived.Test.YtnfnbcbbiaheeaaVw3
namespace Go.Proofs.Ytnfnbcbbiaheeaa.Vw
open Go.RowKit Go.Proofs.YtnfnbcbbiaheeaaW.PrintWords Go.Proofs.YtnfnbcbbiaheeaaW.PrintLast Go.Proofs.Ytnfnbcbbiaheeaa.Lib
/-- A View that was made behind w0. -/
structure Sv (w0 w : World) (g r : Nat) (L : List (Int × Int)) : Prop where
  v : Vs w g r L
  g0 : w0.heap.size ≤ g
  r0 : w0.heap.size ≤ r
  below : Below w0.heap.size w0 w
section
variable {w0 w W : World} {g r : Nat} {L : List (Int × Int)}
theorem Sv.far (h : Sv w0 w g r L) (hb : Below w.heap.size w W) : Sv w0 W g r L := ⟨h.v.below hb, h.g0, h.r0, below_then h.below h.below.size hb⟩
theorem Sv.mod {L' : List (Int × Int)} (h : Sv w0 w g r L) (hv : Vs W g r L') (hm : Mod (fun q => q = r) w W) : Sv w0 W g r L' := ⟨hv, h.g0, h.r0, hm.after h.below h.below.size (fun k hk => by rw [hk]; exact h.r0)⟩
theorem sv_new (n : Nat) (w0 w : World) (hB : Below w0.heap.size w0 w) (h : 1 ≤ n) (h' : n ≤ 12) (i : Int) (hi : i = (n : Int)) : Calls Try.prog 11 #[.int .i64 i] w fun e w' => ∃ g r, e = .returned (.tuple #[.pointer (some ⟨g, 0, none⟩), .int .i64 0]) ∧ Sv w0 w' g r (List.replicate n (0, 0)) := by
  subst hi
  exact (new_ok n w h h').mono fun e w' ⟨g, r, h1, h2, h3, h4, h5⟩ => ⟨g, r, h1, h2, Nat.le_trans hB.size h3, Nat.le_trans hB.size h4, below_then hB hB.size h5⟩
theorem sv_next (i ev : Int) (b : Bool) (L' : List (Int × Int)) (h : Sv w0 w g r L) (hn : nx L i ev = (b, L')) :
    Calls Try.prog 12 #[.pointer (some ⟨g, 0, none⟩), .int .i64 i, .int .i64 ev] w fun e w' => e = .returned (.bool b) ∧ Sv w0 w' g r L' := by
  refine (next_calls g r L i ev w h.v).mono fun e w' ⟨h1, h2, h3⟩ => ?_
  rw [hn] at h1 h2
  exact ⟨h1, h.mod h2 h3⟩
theorem sv_state (i a : Int) (h : Sv w0 w g r L) (hn : (st L i).1 = a) : Calls Try.prog 13 #[.pointer (some ⟨g, 0, none⟩), .int .i64 i] w fun e w' => e = .returned (.int .i64 a) ∧ Sv w0 w' g r L := by
  subst hn
  exact (state_calls g r L i w h.v).mono fun e w' ⟨h1, h2⟩ => ⟨h1, h.far h2⟩
theorem sv_inc (i a : Int) (h : Sv w0 w g r L) (hn : (st L i).2 = a) : Calls Try.prog 14 #[.pointer (some ⟨g, 0, none⟩), .int .i64 i] w fun e w' => e = .returned (.int .i64 a) ∧ Sv w0 w' g r L := by
  subst hn
  exact (inc_calls g r L i w h.v).mono fun e w' ⟨h1, h2⟩ => ⟨h1, h.far h2⟩
theorem sv_slots (a : Int) (h : Sv w0 w g r L) (hn : (L.length : Int) = a) : Calls Try.prog 15 #[.pointer (some ⟨g, 0, none⟩)] w fun e w' => e = .returned (.int .i64 a) ∧ Sv w0 w' g r L := by
  subst hn
  exact (slots_calls g r L w h.v).mono fun e w' ⟨h1, h2⟩ => ⟨h1, h.far h2⟩
theorem sv_few (A : Option Addr) (n c : Nat) (l : List Int) (a : Int) (h : Sv w0 w g r L) (hA : Rd w A n l) (hn : l.length = n) (hc : n ≤ c) (hl : n ≤ 1000) (hL : L.length ≤ 1000) (ha : (cnt l L : Int) = a) :
    Calls Try.prog 16 #[.pointer (some ⟨g, 0, none⟩), .slice A n c] w fun e w' => e = .returned (.int .i64 a) ∧ Sv w0 w' g r L := by
  subst ha hn
  exact (few_calls g r L A c l w h.v hA hc hl hL).mono fun e w' ⟨h1, h2⟩ => ⟨h1, h.far h2⟩
theorem rd_lit1 (w : World) (a : Int) : Rd (w.alloc (.cells #[.int .i64 a] 3)) (some ⟨w.heap.size, 0, none⟩) 1 [a] := Rd.of_blk (l := [a]) (blk_new w (.cells #[.int .i64 a] 3)) (by simp)
theorem rd_lit2 (w : World) (a b : Int) : Rd (w.alloc (.cells #[.int .i64 a, .int .i64 b] 3)) (some ⟨w.heap.size, 0, none⟩) 2 [a, b] := Rd.of_blk (l := [a, b]) (blk_new w (.cells #[.int .i64 a, .int .i64 b] 3)) (by simp)
theorem rd_lit3 (w : World) (a b c : Int) : Rd (w.alloc (.cells #[.int .i64 a, .int .i64 b, .int .i64 c] 3)) (some ⟨w.heap.size, 0, none⟩) 3 [a, b, c] := Rd.of_blk (l := [a, b, c]) (blk_new w (.cells #[.int .i64 a, .int .i64 b, .int .i64 c] 3)) (by simp)
end
set_option maxHeartbeats 4000000 in
set_option maxRecDepth 100000 in
theorem runs_calls (w : World) : Calls Try.prog 3 #[] w fun e w' => e = .returned (.bool true) ∧ Below w.heap.size w w' := by
  have HB := Aside0.mk (Below.refl w.heap.size w)
  have N0 := Aside0.mk (show nx [(0, 0), (0, 0)] 0 2 = (false, [(0, 0), (0, 0)]) from by simp [nx])
  have N1 := Aside0.mk (show nx [(0, 0), (0, 0)] 0 1 = (true, [(0, 1), (0, 0)]) from by simp [nx, wrap64])
  have N2 := Aside0.mk (show nx [(0, 1), (0, 0)] 0 1 = (true, [(0, 2), (0, 0)]) from by simp [nx, wrap64])
  have N3 := Aside0.mk (show nx [(0, 2), (0, 0)] 0 2 = (true, [(1, 2), (0, 0)]) from by simp [nx])
  have N4 := Aside0.mk (show nx [(1, 2), (0, 0)] 0 3 = (true, [(2, 2), (0, 0)]) from by simp [nx])
  have N5 := Aside0.mk (show nx [(2, 2), (0, 0)] 0 1 = (true, [(0, 3), (0, 0)]) from by simp [nx, wrap64])
  have E1 := Aside0.mk (show ([0] : List Int).length = 1 from rfl)
  have E2 := Aside0.mk (show (2 : Int) = ((2 : Nat) : Int) from rfl)
  go_enter Try.func3, Try.ntmps3
  go_wp2_with (first | (go_at_call 11; (with_reducible refine (sv_new 2 w _ HB.out (by decide) (by decide) _ E2.out).mono ?_); rintro e_1 w_1 ⟨g, r, rfl, hs⟩; have HS := Aside0.mk (show Sv w w_1 g r [(0, 0), (0, 0)] from hs); clear HB hs) | (go_at_call 12; (with_reducible refine (sv_next (L := [(0, 0), (0, 0)]) 0 2 false [(0, 0), (0, 0)] HS.out N0.out).mono ?_); rintro e_1 w_1 ⟨rfl, hs⟩; have HS_n := Aside0.mk hs; clear HS; have HS := HS_n; clear HS_n hs) | (go_at_call 12; (with_reducible refine (sv_next (L := [(0, 0), (0, 0)]) 0 1 true [(0, 1), (0, 0)] HS.out N1.out).mono ?_); rintro e_1 w_1 ⟨rfl, hs⟩; have HS_n := Aside0.mk hs; clear HS; have HS := HS_n; clear HS_n hs) | (go_at_call 12; (with_reducible refine (sv_next (L := [(0, 1), (0, 0)]) 0 1 true [(0, 2), (0, 0)] HS.out N2.out).mono ?_); rintro e_1 w_1 ⟨rfl, hs⟩; have HS_n := Aside0.mk hs; clear HS; have HS := HS_n; clear HS_n hs) | (go_at_call 12; (with_reducible refine (sv_next (L := [(0, 2), (0, 0)]) 0 2 true [(1, 2), (0, 0)] HS.out N3.out).mono ?_); rintro e_1 w_1 ⟨rfl, hs⟩; have HS_n := Aside0.mk hs; clear HS; have HS := HS_n; clear HS_n hs) | (go_at_call 12; (with_reducible refine (sv_next (L := [(1, 2), (0, 0)]) 0 3 true [(2, 2), (0, 0)] HS.out N4.out).mono ?_); rintro e_1 w_1 ⟨rfl, hs⟩; have HS_n := Aside0.mk hs; clear HS; have HS := HS_n; clear HS_n hs) | (go_at_call 12; (with_reducible refine (sv_next (L := [(2, 2), (0, 0)]) 0 1 true [(0, 3), (0, 0)] HS.out N5.out).mono ?_); rintro e_1 w_1 ⟨rfl, hs⟩; have HS_n := Aside0.mk hs; clear HS; have HS := HS_n; clear HS_n hs) | (go_at_call 13; (with_reducible refine (sv_state 0 0 HS.out (by decide)).mono ?_); rintro e_1 w_1 ⟨rfl, hs⟩; have HS_n := Aside0.mk hs; clear HS; have HS := HS_n; clear HS_n hs) | (go_at_call 14; (with_reducible refine (sv_inc 0 3 HS.out (by decide)).mono ?_); rintro e_1 w_1 ⟨rfl, hs⟩; have HS_n := Aside0.mk hs; clear HS; have HS := HS_n; clear HS_n hs) | (go_at_call 15; (with_reducible refine (sv_slots 2 HS.out (by decide)).mono ?_); rintro e_1 w_1 ⟨rfl, hs⟩; have HS_n := Aside0.mk hs; clear HS; have HS := HS_n; clear HS_n hs) | (go_at_call 16; (with_reducible refine (sv_few _ 1 1 [0] 2 (HS.out.far (below_alloc (Below.refl _ _) _)) (rd_lit1 _ _) E1.out (by decide) (by decide) (by decide) (by decide)).mono ?_); rintro e_1 w_1 ⟨rfl, hs⟩; have HS_n := Aside0.mk hs; clear HS; have HS := HS_n; clear HS_n hs))
  go_ret
  exact ⟨rfl, HS.out.below⟩
end Go.Proofs.Ytnfnbcbbiaheeaa.Vw
