/- A call's own row of boxes; Within. -/
import Derived.Test.YtnfnbcbbiaheeaaMl9
import Derived.BigQuiet
namespace Go.Proofs.Ytnfnbcbbiaheeaa.Ml
open Go.RowKit Go.Proofs.YtnfnbcbbiaheeaaW.PrintWords Go.Proofs.YtnfnbcbbiaheeaaW.PrintLast Go.Proofs.YtnfnbcbbiaheeaaW.PrintMore Go.Proofs.Ytnfnbcbbiaheeaa.Lib Go.Proofs.Ytnfnbcbbiaheeaa.Open
theorem within (a lo hi n : Int) (h0 : 0 < n) (hn : n ≤ 1099511627776) (hl : -1099511627776 ≤ lo) (hl' : lo ≤ 1099511627776) (e : hi - lo + 1 = n) : ∃ r, PMailFair.depotbook_Within.f a lo hi = some r ∧ lo ≤ r ∧ r ≤ hi := by
  unfold PMailFair.depotbook_Within.f
  have e : wrap64 (wrap64 (hi - lo) + 1) = n := by unfold wrap64; omega
  rw [e, if_neg (by omega)]
  have hm1 := Int.tmod_lt_of_pos a h0
  have hm2 : -n < Int.tmod a n := by
    have := Int.tmod_lt_of_pos (-a) h0
    rw [Int.neg_tmod] at this
    omega
  generalize Int.tmod a n = m at *
  by_cases c : m < 0
  · rw [if_pos c]
    refine ⟨_, rfl, ?_⟩
    unfold wrap64
    omega
  · rw [if_neg c]
    refine ⟨_, rfl, ?_⟩
    unfold wrap64
    omega
/-- Within: a number in the bounds, the same each time. -/
theorem within_calls (a lo hi : Int) (h0 : lo ≤ hi) (hl : -1000000 ≤ lo) (hh : hi ≤ 1000000) :
    ∃ r : Int, lo ≤ r ∧ r ≤ hi ∧ ∀ w, Calls Try.prog 19 #[.int .i64 a, .int .i64 lo, .int .i64 hi] w fun e w' => e = .returned (.int .i64 r) ∧ Below w.heap.size w w' := by
  obtain ⟨r, h, h1, h2⟩ := within a lo hi (hi - lo + 1) (by omega) (by omega) (by omega) (by omega) rfl
  exact ⟨r, h1, h2, fun w => (PMailFair.depotbook_Within.calls a lo hi r w h).mono fun e w' ⟨h3, h4⟩ => ⟨h3, h4.below⟩⟩
theorem within_nat (a lo hi : Int) (h0 : lo ≤ hi) (hl : 0 ≤ lo) (hh : hi ≤ 1000000) :
    ∃ r : Nat, lo ≤ (r : Int) ∧ (r : Int) ≤ hi ∧ ∀ w, Calls Try.prog 19 #[.int .i64 a, .int .i64 lo, .int .i64 hi] w fun e w' => e = .returned (.int .i64 (r : Int)) ∧ Below w.heap.size w w' := by
  obtain ⟨r, h1, h2, h3⟩ := within_calls a lo hi h0 (by omega) hh
  obtain ⟨m, rfl⟩ : ∃ m : Nat, r = (m : Int) := ⟨r.toNat, by omega⟩
  exact ⟨m, h1, h2, h3⟩
/-- The boxes of a call's own: a row of pointers. -/
structure Bl (w0 W : World) (v : Value) (bs : List (Option (Nat × Nat))) (xss : List (List Fr)) : Prop where
  bxs : Bxs W bs xss
  own : W.ownsRow w0.heap.size 40 1 v bs.length (bs.map pv)
  ge : ∀ k, Chs bs k → w0.heap.size ≤ k
  below : Below w0.heap.size w0 W
section
variable {w0 W W1 : World} {v : Value} {bs : List (Option (Nat × Nat))} {xss : List (List Fr)}
theorem Bl.nil (hb : Below w0.heap.size w0 W) : Bl w0 W (.slice none 0 0) [] [] :=
  ⟨⟨rfl, fun i p h => by simp at h, fun i h => by simp at h, fun i j p q _ h => by simp at h⟩, own_nil _ _ _ _, fun k ⟨i, g, h⟩ => by simp at h, hb⟩
theorem Bl.far (h : Bl w0 W v bs xss) (hb : Below W.heap.size W W1) : Bl w0 W1 v bs xss := ⟨h.bxs.below hb, pw_own_below h.own hb, h.ge, below_then h.below h.below.size hb⟩
theorem Bl.size (h : Bl w0 W v bs xss) : w0.heap.size ≤ W.heap.size := h.below.size
theorem Bxs.lt (h : Bxs W bs xss) : ∀ k, Chs bs k → k < W.heap.size := fun k ⟨i, g, hi⟩ => by
  obtain ⟨xs, _, hx⟩ := h.box i _ hi
  exact hx.lt
/-- Blocks of cells of another type are written. -/
theorem Bxs.other (h : Bxs W bs xss) {S : Nat → Prop} (hm : Mod S W W1) (hs : ∀ k, S k → ∃ cur t, W.heap[k]? = some (.cells cur t (0, 0)) ∧ t ≠ 75) : Bxs W1 bs xss :=
  ⟨h.len, fun i p hp => by
    obtain ⟨xs, h1, h2⟩ := h.box i p hp
    refine ⟨xs, h1, h2.mod hm (fun e => ?_) (fun e => ?_)⟩
    · obtain ⟨cur, t, h3, h4⟩ := hs _ e
      exact h4 (by have := h2.blk; rw [h3] at this; injection this with this; injection this)
    · obtain ⟨cur, t, h3, h4⟩ := hs _ e
      exact h.cells h3 ⟨i, p.1, hp⟩, h.nil, h.diff⟩
theorem Bl.other (h : Bl w0 W v bs xss) {S : Nat → Prop} (hm : Mod S W W1) (hs : ∀ k, S k → ∃ cur t, W.heap[k]? = some (.cells cur t (0, 0)) ∧ t ≠ 75 ∧ t ≠ 40) (h0 : ∀ k, S k → w0.heap.size ≤ k) : Bl w0 W1 v bs xss :=
  ⟨h.bxs.other hm (fun k hk => by obtain ⟨cur, t, h1, h2, _⟩ := hs k hk; exact ⟨cur, t, h1, h2⟩), hm.own h.own (fun k hk e => by
    obtain ⟨cur, t, h1, _, h2⟩ := hs k e
    obtain ⟨c, hc⟩ := own_typed h.own k hk
    rw [h1] at hc
    injection hc with hc
    injection hc with _ hc
    exact h2 hc), h.ge, hm.after h.below h.size h0⟩
/-- Another row of the call's own is appended to. -/
theorem Bl.row (h : Bl w0 W v bs xss) {e : TypeId} {size n : Nat} {u : Value} {xs : List Value} (ho : W.ownsRow w0.heap.size e size u n xs) (he : e ≠ 75 ∧ e ≠ 40) (hm : Mod (fun k => some k = u.ownBlock) W W1) : Bl w0 W1 v bs xss :=
  h.other hm (fun k hk => by obtain ⟨c, hc⟩ := own_typed ho k hk.symm; exact ⟨c, e, hc, he⟩) (fun k hk => own_base ho k hk.symm)
/-- A box more. -/
theorem Bxs.add {g c : Nat} {xs : List Fr} (h : Bxs W bs xss) (hx : Bx W g c 9 xs) (hc : ∀ k, Chs bs k → k < c) : Bxs W (bs ++ [some (g, c)]) (xss ++ [xs]) := by
  have hl := h.len
  refine ⟨by simp [h.len], fun i p hp => ?_, fun i hi => ?_, fun i j p q hij hp hq => ?_⟩
  · by_cases hi : i < bs.length
    · rw [List.getElem?_append_left hi] at hp
      obtain ⟨ys, h1, h2⟩ := h.box i p hp
      exact ⟨ys, by rw [List.getElem?_append_left (by omega)]; exact h1, h2⟩
    · rw [List.getElem?_append_right (by omega)] at hp
      obtain ⟨d, hd⟩ : ∃ d, d = i - bs.length := ⟨_, rfl⟩
      rw [← hd] at hp
      cases d with
      | zero =>
        obtain rfl : (g, c) = p := by simpa using hp
        exact ⟨xs, by rw [List.getElem?_append_right (by omega), show i - xss.length = 0 by omega]; rfl, hx⟩
      | succ d => simp at hp
  · by_cases hl' : i < bs.length
    · rw [List.getElem?_append_left hl'] at hi
      rw [List.getElem?_append_left (by omega)]
      exact h.nil i hi
    · rw [List.getElem?_append_right (by omega)] at hi
      obtain ⟨d, hd⟩ : ∃ d, d = i - bs.length := ⟨_, rfl⟩
      rw [← hd] at hi
      cases d with
      | zero => simp at hi
      | succ d => simp at hi
  · have key : ∀ (i : Nat) (p : Nat × Nat), (bs ++ [some (g, c)])[i]? = some (some p) → (i < bs.length ∧ bs[i]? = some (some p)) ∨ (i = bs.length ∧ p = (g, c)) := fun i p hp => by
      by_cases hi : i < bs.length
      · rw [List.getElem?_append_left hi] at hp
        exact .inl ⟨hi, hp⟩
      · rw [List.getElem?_append_right (by omega)] at hp
        obtain ⟨d, hd⟩ : ∃ d, d = i - bs.length := ⟨_, rfl⟩
        rw [← hd] at hp
        cases d with
        | zero => exact .inr ⟨by omega, by simpa using hp.symm⟩
        | succ d => simp at hp
    rcases key i p hp with ⟨h1, h2⟩ | ⟨h1, rfl⟩ <;> rcases key j q hq with ⟨h3, h4⟩ | ⟨h3, rfl⟩
    · exact h.diff i j p q hij h2 h4
    · have := hc p.2 ⟨i, p.1, h2⟩
      show p.2 ≠ c
      omega
    · have := hc q.2 ⟨j, q.1, h4⟩
      show c ≠ q.2
      omega
    · omega
theorem Bxs.addnil (h : Bxs W bs xss) : Bxs W (bs ++ [none]) (xss ++ [[]]) := by
  have hl := h.len
  have key : ∀ (i : Nat) (p : Nat × Nat), (bs ++ [none])[i]? = some (some p) → bs[i]? = some (some p) := fun i p hp => by
    by_cases hi : i < bs.length
    · rw [List.getElem?_append_left hi] at hp
      exact hp
    · rw [List.getElem?_append_right (by omega)] at hp
      obtain ⟨d, hd⟩ : ∃ d, d = i - bs.length := ⟨_, rfl⟩
      rw [← hd] at hp
      cases d with
      | zero => simp at hp
      | succ d => simp at hp
  refine ⟨by simp [h.len], fun i p hp => ?_, fun i hi => ?_, fun i j p q hij hp hq => h.diff i j p q hij (key i p hp) (key j q hq)⟩
  · obtain ⟨ys, h1, h2⟩ := h.box i p (key i p hp)
    have hi := (List.getElem?_eq_some_iff.1 h1).1
    exact ⟨ys, by rw [List.getElem?_append_left hi]; exact h1, h2⟩
  · by_cases hl' : i < bs.length
    · rw [List.getElem?_append_left hl'] at hi
      rw [List.getElem?_append_left (by omega)]
      exact h.nil i hi
    · have h3 := (List.getElem?_eq_some_iff.1 hi).1
      simp only [List.length_append, List.length_singleton] at h3
      rw [List.getElem?_append_right (by omega), show i - xss.length = 0 by omega]
      rfl
theorem Bl.add {g c : Nat} {xs : List Fr} {v1 : Value} (h : Bl w0 W v bs xss) (hx : Bx W g c 9 xs) (hc : ∀ k, Chs bs k → k < c) (h0 : w0.heap.size ≤ c) (ho : W1.ownsRow w0.heap.size 40 1 v1 (bs.length + 1) (bs.map pv ++ [.pointer (some ⟨g, 0, none⟩)])) (hm : Mod (fun k => some k = v.ownBlock) W W1) : Bl w0 W1 v1 (bs ++ [some (g, c)]) (xss ++ [xs]) := by
  refine ⟨(h.bxs.add hx hc).other hm (fun k hk => ?_), ?_, fun k hk => ?_, hm.after h.below h.size (fun k hk => own_base h.own k hk.symm)⟩
  · obtain ⟨c, hc⟩ := own_typed h.own k hk.symm
    exact ⟨c, 40, hc, by decide⟩
  · rw [List.length_append, List.map_append]
    exact ho
  · obtain ⟨i, g', hi⟩ := hk
    by_cases hl : i < bs.length
    · rw [List.getElem?_append_left hl] at hi
      exact h.ge k ⟨i, g', hi⟩
    · rw [List.getElem?_append_right (by omega)] at hi
      obtain ⟨d, hd⟩ : ∃ d, d = i - bs.length := ⟨_, rfl⟩
      rw [← hd] at hi
      cases d with
      | zero =>
        obtain ⟨rfl, rfl⟩ : g = g' ∧ c = k := by simpa using hi
        exact h0
      | succ d => simp at hi
theorem Bl.addnil {v1 : Value} (h : Bl w0 W v bs xss) (ho : W1.ownsRow w0.heap.size 40 1 v1 (bs.length + 1) (bs.map pv ++ [.pointer none])) (hm : Mod (fun k => some k = v.ownBlock) W W1) : Bl w0 W1 v1 (bs ++ [none]) (xss ++ [[]]) := by
  refine ⟨h.bxs.addnil.other hm (fun k hk => ?_), ?_, fun k hk => ?_, hm.after h.below h.size (fun k hk => own_base h.own k hk.symm)⟩
  · obtain ⟨c, hc⟩ := own_typed h.own k hk.symm
    exact ⟨c, 40, hc, by decide⟩
  · rw [List.length_append, List.map_append]
    exact ho
  · obtain ⟨i, g', hi⟩ := hk
    have hl := (List.getElem?_eq_some_iff.1 hi).1
    simp only [List.length_append, List.length_singleton] at hl
    by_cases hl' : i < bs.length
    · rw [List.getElem?_append_left hl'] at hi
      exact h.ge k ⟨i, g', hi⟩
    · rw [List.getElem?_append_right (by omega), show i - bs.length = 0 by omega] at hi
      simp at hi
/-- The row as the argument of a call. -/
theorem Bl.asRow {A : Option Addr} {n c : Nat} (h : Bl w0 W (.slice A n c) bs xss) : Row W A n bs := by
  have hlen : bs.length = n := by
    rcases h.own.2 with ⟨e, hn⟩ | ⟨g, cap, cur, e, _⟩
    · injection e with _ e _
      omega
    · injection e with _ e _
      exact e.symm
  refine ⟨hlen, fun hn => ?_⟩
  have h' := h.own
  rcases h.own.2 with ⟨e, hz⟩ | ⟨g, cap, cur, e, hg, hh, _⟩
  · omega
  · injection e with e1 e2 e3
    subst e1 e3
    refine ⟨g, cur, 40, rfl, hh, fun i p hp => ?_⟩
    have hi := (List.getElem?_eq_some_iff.1 hp).1
    rw [e2] at h'
    have := h'.cellAt i (by omega)
    rw [blk_cell hh] at this
    rw [this, List.getElem?_map, hp]
    rfl
/-- A row of numbers as the argument of a call. -/
theorem own_arg {B n c : Nat} {A : Option Addr} {l : List Int} (h : W.ownsRow B 3 1 (.slice A n c) n (l.map (Value.int .i64))) (hn : l.length = n) (hl : n ≤ 1000) : Arg icl W A n l := by
  refine ⟨hn, by omega, fun h0 => ?_⟩
  have h' := h
  rcases h.2 with ⟨e, hz⟩ | ⟨g, cap, cur, e, hg, hh, _⟩
  · omega
  · injection e with e1 e2 e3
    subst e1 e3
    refine ⟨g, 0, rfl, fun j u hu => ?_⟩
    rw [icl_flat] at hu
    have hj := (List.getElem?_eq_some_iff.1 hu).1
    rw [List.length_map] at hj
    rw [Nat.zero_add, h'.cellAt j (by omega)]
    exact hu
end
end Go.Proofs.Ytnfnbcbbiaheeaa.Ml
