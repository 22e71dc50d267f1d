/- The model: asks that came in. -/
import Derived.Test.YtepklobkppdliaaDoorUAh
import Derived.Test.YtepklobkppdliaaDoorUMk30
import Derived.Test.YtepklobkppdliaaDoorUAa
import Derived.Test.YtepklobkppdliaaDoorRows
import Derived.Deep.Slices
namespace Go.Proofs.YtepklobkppdliaaDoor.Md
open Go.RowKit Go.Proofs.YtepklobkppdliaaDoorW.PrintWords Go.Proofs.YtepklobkppdliaaDoorW.PrintLast Go.Proofs.YtepklobkppdliaaDoorW.PrintMore Go.Proofs.YtepklobkppdliaaDoor.Lib Go.Proofs.YtepklobkppdliaaDoor.Open Go.Proofs.YtepklobkppdliaaDoor.Open
open _root_.Go.Proofs.YtepklobkppdliaaDoor.Rows (uptoBulk uptoBulkAll)
section
variable {H : Type}
theorem bulk_get : ∀ {l : List (DataW H)} {i : Nat} {d : DataW H}, l[i]? = some d → uptoBulk d ≤ uptoBulkAll l
  | [], i, d, h => by simp at h
  | a :: l, 0, d, h => by
    obtain rfl : a = d := by simpa using h
    unfold uptoBulkAll
    omega
  | a :: l, i + 1, d, h => by
    have := bulk_get (l := l) (i := i) (d := d) (by simpa using h)
    unfold uptoBulkAll
    omega
theorem bulk_two : ∀ {l : List (DataW H)} {i j : Nat} {d e : DataW H}, i < j → l[i]? = some d → l[j]? = some e → uptoBulk d + uptoBulk e ≤ uptoBulkAll l
  | [], i, j, d, e, _, h, _ => by simp at h
  | a :: l, 0, j + 1, d, e, _, h, h2 => by
    obtain rfl : a = d := by simpa using h
    have := bulk_get (l := l) (i := j) (d := e) (by simpa using h2)
    unfold uptoBulkAll
    omega
  | a :: l, i + 1, j + 1, d, e, hlt, h, h2 => by
    have := bulk_two (l := l) (i := i) (j := j) (d := d) (e := e) (by omega) (by simpa using h) (by simpa using h2)
    unfold uptoBulkAll
    omega
theorem bulk_texts (D : Nat → DataW H) (s : Nat → ByteArray) : ∀ (l : List Nat), (∀ i ∈ l, D i = .lit (.string (s i).data.toList)) → uptoBulkAll (l.map D) = psum (l.map s)
  | [], _ => rfl
  | i :: l, h => by
    rw [List.map_cons, List.map_cons, h i (by simp)]
    unfold uptoBulkAll
    rw [bulk_texts D s l (fun j hj => h j (by simp [hj]))]
    unfold uptoBulk
    rw [Array.length_toList]
    show (s i).size + 1 + psum (l.map s) = psum (s i :: l.map s)
    unfold psum
    rw [List.map_cons, List.sum_cons]
end
theorem list13 {α : Type} : ∀ {l : List α}, l.length = 13 → ∃ q0 q1 q2 q3 q4 q5 q6 q7 q8 q9 q10 q11 q12, l = [q0, q1, q2, q3, q4, q5, q6, q7, q8, q9, q10, q11, q12]
  | [q0, q1, q2, q3, q4, q5, q6, q7, q8, q9, q10, q11, q12], _ => ⟨q0, q1, q2, q3, q4, q5, q6, q7, q8, q9, q10, q11, q12, rfl⟩
def strOf' : Value → ByteArray
  | .string s => s
  | _ => ⟨#[]⟩
section
variable {H : Type} {enc : TypeId × Value → H} {W : World} {spare : Nat → Bool} {held : Bool} {fuel : Nat}
/-- Keys that came in. -/
theorem open_keys {v : Value} {y : DataW H × List MemPlace} (h : DataW.trod enc Tryd.prog W 0 spare held fuel 24 [v] = some y) : ∃ A ks cap, v = .slice A ks.length cap ∧ Ks W A ks ∧ psum ks ≤ uptoBulk y.1 := by
  rcases Deep.open_slice1 Tryd.underlying24 (by kernel_rfl) h with ⟨hcs, _⟩ | ⟨a, len, cap, m, n, Vf, D, Pl, hcs, _, hle, _, hmm, hx, hel⟩
  · obtain rfl : v = .slice none 0 0 := by simpa using hcs
    exact ⟨none, [], 0, rfl, ⟨fun h => absurd rfl h, fun k hk => by cases hk⟩, Nat.zero_le _⟩
  · obtain rfl : v = .slice (some a) len cap := by simpa using hcs
    have hlm : len ≤ m := by rw [hmm]; split <;> omega
    have hs : ∀ i, i < len → Vf i = .string (strOf' (Vf i)) ∧ D i = .lit (.string (strOf' (Vf i)).data.toList) ∧ (strOf' (Vf i)).size ≤ maxLen := fun i hi => by
      have h2 := (hel i (by omega)).2
      cases n with
      | zero => cases h2
      | succ n =>
        obtain ⟨b, hb, he, hsz⟩ := DataW.trod_string Tryd.underlying9 h2
        have hv : Vf i = .string b := by simpa using hb
        have hd : D i = .lit (.string b.data.toList) := congrArg Prod.fst he
        rw [hv]
        exact ⟨rfl, hd, hsz⟩
    refine ⟨some a, (List.range len).map (fun i => strOf' (Vf i)), cap, by simp, ⟨fun _ => ⟨a, rfl, fun i k hk => ?_⟩, fun k hk => ?_⟩, ?_⟩
    · rw [List.getElem?_map] at hk
      obtain ⟨j, hj, rfl⟩ := Option.map_eq_some_iff.1 hk
      obtain ⟨hlt, hj2⟩ := List.getElem?_eq_some_iff.1 hj
      obtain rfl : i = j := by simpa using hj2
      have hi : i < len := by simpa using hlt
      rw [← (hs i hi).1]
      exact (hel i (by omega)).1
    · obtain ⟨j, hj, rfl⟩ := List.mem_map.1 hk
      exact (hs j (by simpa using hj)).2.2
    · rw [hx]
      show _ ≤ uptoBulk (DataW.slice _ _)
      unfold uptoBulk
      rw [← bulk_texts D (fun i => strOf' (Vf i)) (List.range len) (fun i hi => (hs i (by simpa using hi)).2.1)]
      omega
set_option maxRecDepth 100000 in
/-- An ask that came in. -/
theorem open_ask {cs : List Value} {x : DataW H × List MemPlace} (h : DataW.trod enc Tryd.prog W 0 spare held fuel 53 cs = some x) : ∃ a : Ask, cs = a.c.toList ∧ Ks W a.kA a.ks ∧ 0 ≤ a.r.delta ∧ lightSum a ≤ uptoBulk x.1 := by
  cases fuel with
  | zero => cases h
  | succ fuel =>
    obtain ⟨hl, parts, hd, hp⟩ := struct_at Tryd.underlying53 h
    have hn : Tryd.prog.cellsOf 53 = 13 := by kernel_rfl
    have hl13 : cs.length = 13 := by rw [hl, hn]
    clear h hl hn
    obtain ⟨q0, q1, q2, q3, q4, q5, q6, q7, q8, q9, q10, q11, q12, rfl⟩ := list13 hl13
    clear hl13
    have c3 : Tryd.prog.cellsOf 3 = 1 := by kernel_rfl
    have c9 : Tryd.prog.cellsOf 9 = 1 := by kernel_rfl
    have c25 : Tryd.prog.cellsOf 25 = 1 := by kernel_rfl
    have c4 : Tryd.prog.cellsOf 4 = 1 := by kernel_rfl
    have c24 : Tryd.prog.cellsOf 24 = 1 := by kernel_rfl
    have c27 : Tryd.prog.cellsOf 27 = 9 := by kernel_rfl
    obtain ⟨_, _, h0⟩ := hp 0 _ rfl
    obtain ⟨y1, hq1, h1⟩ := hp 1 _ rfl
    obtain ⟨y2, hq2, h2⟩ := hp 2 _ rfl
    obtain ⟨_, _, h11⟩ := hp 3 _ rfl
    obtain ⟨_, _, h12⟩ := hp 4 _ rfl
    simp only [c3, c9, c4, c27, List.drop_zero, List.drop_succ_cons, List.take_succ_cons, List.take_zero] at h0 h1 h2 h11 h12
    obtain ⟨x0, rfl⟩ := cell_bool (v := q0) h0
    obtain ⟨x1, rfl, hx1⟩ := cell_str (v := q1) h1
    obtain ⟨x11, rfl⟩ := cell_int (v := q11) h11
    obtain ⟨x12, rfl⟩ := cell_int (v := q12) h12
    cases fuel with
    | zero => cases h2
    | succ fuel =>
      obtain ⟨_, parts2, hd2, hp2⟩ := struct_at Tryd.underlying27 h2
      obtain ⟨_, _, g0⟩ := hp2 0 _ rfl
      obtain ⟨z1, gq1, g1⟩ := hp2 1 _ rfl
      obtain ⟨_, _, g2⟩ := hp2 2 _ rfl
      obtain ⟨_, _, g3⟩ := hp2 3 _ rfl
      obtain ⟨_, _, g4⟩ := hp2 4 _ rfl
      obtain ⟨_, _, g5⟩ := hp2 5 _ rfl
      obtain ⟨_, _, g6⟩ := hp2 6 _ rfl
      obtain ⟨_, _, g7⟩ := hp2 7 _ rfl
      obtain ⟨z8, gq8, g8⟩ := hp2 8 _ rfl
      simp only [c3, c9, c4, c24, c25, List.drop_zero, List.drop_succ_cons, List.take_succ_cons, List.take_zero] at g0 g1 g2 g3 g4 g5 g6 g7 g8
      obtain ⟨v0, rfl⟩ := cell_int (v := q2) g0
      obtain ⟨A, ks, cap, rfl, hks, hpk⟩ := open_keys (v := q3) g1
      obtain ⟨v2, rfl⟩ := cell_int (v := q4) g2
      obtain ⟨v3, rfl⟩ := cell_int (v := q5) g3
      obtain ⟨v4, rfl⟩ := cell_int (v := q6) g4
      obtain ⟨v5, rfl⟩ := cell_int (v := q7) g5
      obtain ⟨v6, rfl, hv6⟩ := cell_u64 (v := q8) g6
      obtain ⟨v7, rfl⟩ := cell_bool (v := q9) g7
      obtain ⟨v8, rfl, hv8⟩ := cell_str (v := q10) g8
      refine ⟨⟨x0, x1, ⟨v0, v2, v3, v4, v5, v6, v7, v8⟩, ks, A, cap, x11, x12⟩, rfl, hks, hv6, ?_⟩
      unfold lightSum
      simp only
      have e1 := bulk_two (show 1 < 2 by decide) hq1 hq2
      have e2 := bulk_two (show 1 < 8 by decide) gq1 gq8
      rw [hx1, hd2] at e1
      rw [hv8] at e2
      rw [hd]
      have u1 : uptoBulk (DataW.lit (H := H) (.string x1.data.toList)) = x1.size + 1 := by unfold uptoBulk; rw [Array.length_toList]; rfl
      have u8 : uptoBulk (DataW.lit (H := H) (.string v8.data.toList)) = v8.size + 1 := by unfold uptoBulk; rw [Array.length_toList]; rfl
      have ua : uptoBulk (DataW.agg parts2) = uptoBulkAll parts2 + 1 := by rw [uptoBulk]
      have ub : uptoBulk (DataW.agg parts) = uptoBulkAll parts + 1 := by rw [uptoBulk]
      rw [u1, ua] at e1
      rw [u8] at e2
      rw [ub]
      omega
end
/-- Asks that came in. -/
def Asks (W : World) (A : Option Addr) (n : Nat) (as_ : List Ask) : Prop :=
  as_.length = n ∧ n ≤ 9223372036854775807 ∧ (0 < n → ∃ b o, A = some ⟨b, o, none⟩ ∧ ∀ i a, as_[i]? = some a → W.rangeAt b (o + i * 13) a.c.toList) ∧ ∀ a ∈ as_, Ks W a.kA a.ks ∧ 0 ≤ a.r.delta ∧ lightSum a ≤ 1048576
section
variable {H : Type} {enc : TypeId × Value → H} {W : World} {spare : Nat → Bool} {held : Bool} {fuel : Nat}
theorem open_asks {A : Option Addr} {len cap : Nat} {x : DataW H × List MemPlace} (h : DataW.trod enc Tryd.prog W 0 spare held fuel 50 [.slice A len cap] = some x) (hb : uptoBulk x.1 ≤ 1048576) : len ≤ cap ∧ ∃ as_, Asks W A len as_ := by
  rcases Deep.open_slice Tryd.underlying50 h with ⟨hcs, _⟩ | ⟨a, len', cap', m, n, D, Pl, hcs, _, hle, hm, hmm, hx, hel⟩
  · simp only [List.cons.injEq, and_true, Value.slice.injEq] at hcs
    obtain ⟨rfl, rfl, rfl⟩ := hcs
    exact ⟨Nat.le_refl _, [], rfl, by omega, fun h => absurd h (Nat.lt_irrefl 0), fun a ha => by cases ha⟩
  · simp only [List.cons.injEq, and_true, Value.slice.injEq] at hcs
    obtain ⟨rfl, rfl, rfl⟩ := hcs
    have c53 : Tryd.prog.cellsOf 53 = 13 := by kernel_rfl
    rw [c53] at hel
    have hlm : len ≤ m := by rw [hmm]; split <;> omega
    have hbl : ∀ i, i < len → uptoBulk (D i) ≤ 1048576 := fun i hi => by
      have h1 := bulk_get (l := (List.range len).map D) (i := i) (d := D i) (by rw [List.getElem?_map, List.getElem?_range hi]; rfl)
      rw [hx] at hb
      have h2 : uptoBulk (DataW.slice ((List.range len).map D) ((List.range (m - len)).map fun j => D (len + j))) ≤ 1048576 := hb
      unfold uptoBulk at h2
      omega
    have hch : ∀ i : Fin len, ∃ q : Ask, (∀ j v, q.c[j]? = some v → W.cell? (a.add (i.val * 13 + j)) = some v) ∧ Ks W q.kA q.ks ∧ 0 ≤ q.r.delta ∧ lightSum q ≤ 1048576 := fun i => by
      obtain ⟨cs', h1, h2⟩ := hel i.val (by have := i.isLt; omega)
      obtain ⟨q, rfl, hk, hd, hs⟩ := open_ask h2
      refine ⟨q, fun j v hv => ?_, hk, hd, Nat.le_trans hs (hbl i.val i.isLt)⟩
      have hj : j < 13 := (Array.getElem?_eq_some_iff.1 hv).1
      have := (World.cells?_some h1).2.2 j hj
      rw [Deep.add_add] at this
      rw [this, Array.getElem?_toList]
      exact hv
    obtain ⟨f, hf⟩ := Classical.axiomOfChoice hch
    refine ⟨hle, List.ofFn f, by simp, by unfold maxLen at hm; omega, fun hn => ?_, fun q hq => ?_⟩
    · have hsp := Open.no_spot ((hf ⟨0, hn⟩).1 0 _ rfl)
      have ha : a.add (0 * 13 + 0) = a := by unfold Addr.add; simp
      rw [ha] at hsp
      obtain ⟨b, o, s⟩ := a
      have hs0 : s = none := hsp
      subst hs0
      refine ⟨b, o, rfl, fun i q hq => ?_⟩
      rw [List.getElem?_ofFn] at hq
      split at hq
      · obtain rfl := Option.some.inj hq
        intro j v hv
        have h9 := (hf _).1 j v (by simpa using hv)
        rw [Addr.add_mid] at h9
        rw [Nat.add_assoc]
        exact h9
      · cases hq
    · obtain ⟨i, rfl⟩ := List.mem_ofFn.1 hq
      exact (hf i).2
end
end Go.Proofs.YtepklobkppdliaaDoor.Md
