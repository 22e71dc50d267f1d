/- filled: a box with such frames. -/
import Derived.Test.YtnfnbcbbiaheeaaMl2
import Derived.Test.YtnfnbcbbiaheeaaPMailFairx1
import Derived.Test.YtnfnbcbbiaheeaaOpen
import Derived.Deep.LoopGhost
import Derived.Deep.DeepCutAuto
import Derived.Deep.CutBlock
namespace Go.Proofs.Ytnfnbcbbiaheeaa.Ml
open Go.RowKit Go.Proofs.YtnfnbcbbiaheeaaW.PrintWords Go.Proofs.YtnfnbcbbiaheeaaW.PrintLast Go.Proofs.Ytnfnbcbbiaheeaa.Lib Go.Proofs.Ytnfnbcbbiaheeaa.Open
/-- A number's cell. -/
def icl (x : Int) : List Value := [.int .i64 x]
theorem icl_length (x : Int) : (icl x).length = 1 := rfl
def icL : List Leaf := [.int .i64]
theorem ic_mk (cs : List Value) (h : Fits icL cs) : ∃ a, cs = icl a := by
  obtain ⟨k, _, rfl, _, rfl⟩ := h
  exact ⟨k, rfl⟩
/-- A number of an argument, wherever the walk stands. -/
theorem arg_cell {w : World} {A : Option Addr} {n : Nat} {l : List Int} (h : Arg icl w A n l) {i : Nat} (hi : i < n) :
    ∃ x b o, A = some ⟨b, o, none⟩ ∧ l[i]? = some x ∧ ∀ W, Below w.heap.size w W → W.cell? ⟨b, o + i, none⟩ = some (.int .i64 x) := by
  obtain ⟨x, hx⟩ : ∃ x, l[i]? = some x := ⟨_, List.getElem?_eq_getElem (by have := h.1; omega)⟩
  obtain ⟨b, o, rfl, _⟩ := h.at_ icl_length i x hx
  refine ⟨x, b, o, rfl, hx, fun W hb => ?_⟩
  obtain ⟨b', o', e, hr⟩ := (h.below hb).at_ icl_length i x hx
  obtain ⟨rfl, rfl⟩ : b = b' ∧ o = o' := by
    injection e with e
    injection e with e1 e2
    exact ⟨e1, e2⟩
  have := hr 0 _ rfl
  rwa [Nat.mul_one, Nat.add_zero] at this
theorem arg_nil (w : World) : Arg icl w none 0 [] := ⟨rfl, by omega, fun h => absurd h (Nat.lt_irrefl 0)⟩
theorem icl_flat (l : List Int) : l.flatMap icl = l.map (Value.int .i64) := by
  induction l with
  | nil => rfl
  | cons x l ih => rw [List.flatMap_cons, ih]; rfl
theorem arg_blk {w : World} {g : Nat} {t : TypeId} {l : List Int} (h : w.heap[g]? = some (.cells (l.map (Value.int .i64)).toArray t (0, 0))) (hl : l.length ≤ 1000) : Arg icl w (some ⟨g, 0, none⟩) l.length l := by
  refine ⟨rfl, by omega, fun _ => ⟨g, 0, rfl, fun j v hv => ?_⟩⟩
  rw [blk_cell h, Nat.zero_add, List.getElem?_toArray]
  rwa [icl_flat] at hv
/-- The frame with this number. -/
def frn (r : Int) : Fr := ⟨0, 0, 0, r, 0, 0, ⟨#[]⟩, 0, ⟨#[]⟩⟩
theorem of_calls (a : Int) (w : World) : Calls Try.prog 22 #[.int .i64 a] w fun e w' => e = .returned (.agg (cl (frn a)).toArray) ∧ Below w.heap.size w w' :=
  (PMailFair.depotlaw8_of.calls a 0 0 0 a 0 0 ⟨#[]⟩ 0 ⟨#[]⟩ w rfl).mono fun _ _ ⟨h1, h2⟩ => ⟨h1, h2⟩
/-- The loop: i frames lie in the box. -/
def FillAt (w0 : World) (g c room n : Nat) (l : List Int) (k : Nat) (s7 : Value) (wr : World) : Prop :=
  ∃ i : Nat, s7 = .int .i64 (i : Int) ∧ i + k = n ∧ Bx wr g c room ((l.take i).map frn) ∧ Below w0.heap.size w0 wr
set_option maxHeartbeats 4000000 in
set_option maxRecDepth 100000 in
theorem filled_calls (room : Nat) (A : Option Addr) (n cap : Nat) (l : List Int) (w : World) (hA : Arg icl w A n l) (h1 : 1 ≤ room) (h2 : room ≤ 256) (hn : n ≤ room) (i0 : Int) (hi0 : i0 = (room : Int)) :
    Calls Try.prog 20 #[.int .i64 i0, .slice A n cap] w fun e w' => ∃ g c, e = .returned (.pointer (some ⟨g, 0, none⟩)) ∧ Bx w' g c room (l.map frn) ∧ w.heap.size ≤ g ∧ w.heap.size ≤ c ∧ Below w.heap.size w w' := by
  subst hi0
  have HA := Aside0.mk hA
  have HR := Aside0.mk (And.intro h1 h2)
  clear hA
  go_enter Try.func20, Try.ntmps20
  go_wp2_with (go_at_call 29; (with_reducible refine (new_ok room _ HR.out.1 HR.out.2).mono ?_); rintro e_1 w_1 ⟨g, c, rfl, hI, hg, hc, hb⟩; have HF := Aside0.mk (show FillAt w g c room n l n (.int .i64 0) w_1 from ⟨0, rfl, by omega, hI, hb⟩); have HG := Aside0.mk (And.intro hg hc); clear hI hg hc hb)
  go_loopg [7] n (fun k s7 wr => FillAt w g c room n l k s7 wr)
  case atStart => exact HF.out
  case round =>
    clear HF
    obtain ⟨i, rfl, hik, hI, hb⟩ := hrel
    have HI := Aside0.mk hI
    have HB := Aside0.mk hb
    clear hI hb
    by_cases hlt : i < n
    · obtain ⟨x, b, o, rfl, hx, hcx⟩ := arg_cell HA.out hlt
      have cx := hcx _ HB.out
      have t1 : decide ((i : Int) < (n : Int)) = true := decide_eq_true (by omega)
      have HL := Aside0.mk (show ((l.take i).map frn).length < room by rw [List.length_map, List.length_take]; omega)
      have HX := Aside0.mk hx
      clear hx hcx
      go_wp2_with (first | (go_at_call 22; (with_reducible refine (of_calls x _).mono ?_); rintro e_1 w_1 ⟨rfl, hb⟩; have HI_n := Aside0.mk (HI.out.below hb); have HB_n := Aside0.mk (below_step HB.out hb); clear HI HB; have HI := HI_n; have HB := HB_n; clear HI_n HB_n hb) | (go_at_call 21; (with_reducible refine (put_room g c room _ _ _ HI.out HL.out).mono ?_); rintro e_1 w_1 ⟨rfl, hi, hm⟩; have HI_n := Aside0.mk hi; have HB_n := Aside0.mk (hm.after HB.out HB.out.size (fun k hk => by rw [hk]; exact HG.out.2)); clear HI HB; have HI := HI_n; have HB := HB_n; clear HI_n HB_n hi hm))
      go_roundg (n - (i + 1))
      case measure => omega
      case rel => exact ⟨i + 1, by go_num, by omega, by rw [List.take_add_one, HX.out, List.map_append]; exact HI.out, HB.out⟩
    · obtain rfl : i = n := by omega
      have t1 : decide ((i : Int) < (i : Int)) = false := decide_eq_false (by omega)
      go_wp2
      go_ret
      exact ⟨g, c, rfl, by have := HI.out; rwa [List.take_of_length_le (by have := HA.out.1; omega)] at this, HG.out.1, HG.out.2, HB.out⟩
end Go.Proofs.Ytnfnbcbbiaheeaa.Ml
