/- Plain facts for ViewFew, ViewPlays, ViewUp; arguments; Within. -/
import Derived.Test.YtnfnbcbbiaheeaaVw4
import Derived.Test.YtnfnbcbbiaheeaaOpen
import Derived.Deep.RegionHeld3
namespace Go.Proofs.Ytnfnbcbbiaheeaa.Vw
open Go.RowKit Go.Proofs.YtnfnbcbbiaheeaaW.PrintWords Go.Proofs.YtnfnbcbbiaheeaaW.PrintLast Go.Proofs.Ytnfnbcbbiaheeaa.Lib Go.Proofs.Ytnfnbcbbiaheeaa.Open
theorem within (a lo hi n : Int) (h0 : 0 < n) (hn : n ≤ 1099511627776) (hl : -1099511627776 ≤ lo) (hl' : lo ≤ 1099511627776) (e : hi - lo + 1 = n) : ∃ r, VPr.depotbook_Within.f a lo hi = some r ∧ lo ≤ r ∧ r ≤ hi := by
  unfold VPr.depotbook_Within.f
  have e : wrap64 (wrap64 (hi - lo) + 1) = n := by unfold wrap64; omega
  rw [e, if_neg (by omega)]
  have hm1 := Int.tmod_lt_of_pos a h0
  have hm2 : -n < Int.tmod a n := by
    have := Int.tmod_lt_of_pos (-a) h0
    rw [Int.neg_tmod] at this
    omega
  generalize Int.tmod a n = m at *
  by_cases c : m < 0
  · rw [if_pos c]
    refine ⟨_, rfl, ?_⟩
    unfold wrap64
    omega
  · rw [if_neg c]
    refine ⟨_, rfl, ?_⟩
    unfold wrap64
    omega
/-- Within: a number in the bounds. -/
theorem within_calls (a lo hi : Int) (w : World) (h0 : lo ≤ hi) (hl : -1000000 ≤ lo) (hh : hi ≤ 1000000) :
    Calls Try.prog 19 #[.int .i64 a, .int .i64 lo, .int .i64 hi] w fun e w' => ∃ r : Int, e = .returned (.int .i64 r) ∧ lo ≤ r ∧ r ≤ hi ∧ Below w.heap.size w w' := by
  obtain ⟨r, h, h1, h2⟩ := within a lo hi (hi - lo + 1) (by omega) (by omega) (by omega) (by omega) rfl
  exact (VPr.depotbook_Within.calls a lo hi r w h).mono fun e w' ⟨h3, h4⟩ => ⟨r, h3, h1, h2, h4.below⟩
/-- A number's cell. -/
def icl (x : Int) : List Value := [.int .i64 x]
theorem icl_length (x : Int) : (icl x).length = 1 := rfl
def icL : List Leaf := [.int .i64]
theorem ic_mk (cs : List Value) (h : Fits icL cs) : ∃ a, cs = icl a := by
  obtain ⟨k, _, rfl, _, rfl⟩ := h
  exact ⟨k, rfl⟩
/-- A number of an argument, wherever the walk stands. -/
theorem arg_cell {w : World} {A : Option Addr} {n : Nat} {l : List Int} (h : Arg icl w A n l) {i : Nat} (hi : i < n) :
    ∃ x b o, A = some ⟨b, o, none⟩ ∧ l[i]? = some x ∧ ∀ W, Below w.heap.size w W → W.cell? ⟨b, o + i, none⟩ = some (.int .i64 x) := by
  obtain ⟨x, hx⟩ : ∃ x, l[i]? = some x := ⟨_, List.getElem?_eq_getElem (by have := h.1; omega)⟩
  obtain ⟨b, o, rfl, _⟩ := h.at_ icl_length i x hx
  refine ⟨x, b, o, rfl, hx, fun W hb => ?_⟩
  obtain ⟨b', o', e, hr⟩ := (h.below hb).at_ icl_length i x hx
  obtain ⟨rfl, rfl⟩ : b = b' ∧ o = o' := by
    injection e with e
    injection e with e1 e2
    exact ⟨e1, e2⟩
  have := hr 0 _ rfl
  rwa [Nat.mul_one, Nat.add_zero] at this
/-- Each slot stands in one of three states. -/
def Ok (L : List (Int × Int)) : Prop := ∀ x ∈ L, x.1 = 0 ∨ x.1 = 1 ∨ x.1 = 2
theorem ok_new (n : Nat) : Ok (List.replicate n (0, 0)) := by
  intro x hx
  obtain ⟨_, rfl⟩ := List.mem_replicate.1 hx
  exact .inl rfl
theorem ok_set {L : List (Int × Int)} (h : Ok L) (k : Nat) (y : Int × Int) (hy : y.1 = 0 ∨ y.1 = 1 ∨ y.1 = 2) : Ok (L.set k y) := by
  intro x hx
  rcases List.mem_or_eq_of_mem_set hx with h1 | rfl
  · exact h x h1
  · exact hy
theorem ok_nx {L : List (Int × Int)} (h : Ok L) (i ev : Int) : Ok (nx L i ev).2 := by
  unfold nx
  split
  · exact h
  split
  · exact h
  split
  · exact ok_set h _ _ (.inl rfl)
  split
  · exact ok_set h _ _ (.inr (.inl rfl))
  split
  · exact ok_set h _ _ (.inr (.inr rfl))
  · exact h
theorem cnt_cons (l : List Int) (x : Int × Int) (L : List (Int × Int)) : cnt l (x :: L) = cnt l L + if l.contains x.1 then 1 else 0 := by
  rw [cnt, cnt, List.countP_cons]
theorem cnt_facts {L : List (Int × Int)} (h : Ok L) : cnt [0] L + cnt [1] L + cnt [2] L = L.length ∧ cnt [0, 2] L = cnt [0] L + cnt [2] L ∧ cnt [2, 2] L = cnt [2] L ∧ cnt [2, 1] L = cnt [2] L + cnt [1] L ∧ cnt [] L = 0 ∧ cnt [0, 2, 1] L = L.length := by
  induction L with
  | nil => simp [cnt]
  | cons x L ih =>
    have := ih (fun y hy => h y (List.mem_cons_of_mem _ hy))
    simp only [cnt_cons, List.length_cons]
    obtain ⟨a, b⟩ := x
    rcases h (a, b) List.mem_cons_self with e | e | e <;> simp only at e <;> subst e <;> simp <;> omega
section
variable {w0 w : World} {g r : Nat} {L : List (Int × Int)}
/-- An event of a slot: some answer, some list. -/
theorem sv_step (m : Nat) (i ev : Int) (h : Sv w0 w g r L) (hL : L.length = m) (hO : Ok L) :
    Calls Try.prog 12 #[.pointer (some ⟨g, 0, none⟩), .int .i64 i, .int .i64 ev] w fun e w' => ∃ b L', e = .returned (.bool b) ∧ Sv w0 w' g r L' ∧ nx L i ev = (b, L') ∧ L'.length = m ∧ Ok L' := by
  subst hL
  exact (sv_next i ev _ _ h rfl).mono fun e w' ⟨h1, h2⟩ => ⟨_, _, h1, h2, rfl, nx_length L i ev, ok_nx hO i ev⟩
end
end Go.Proofs.Ytnfnbcbbiaheeaa.Vw
